/- The draws of two ratios. No conditions but that there are at most 4096 bytes. -/
import Derived.Test.YtanfccdeacohfaaDrawMoon2
import Derived.RegionTactic
namespace Go.Proofs.Ytanfccdeacohfaa
open Go.RowKit
set_option linter.unusedVariables false
set_option linter.unusedSimpArgs false
def IsRatio2 (v : Value) : Prop := ∃ a b x y : Int, v = .tuple #[.agg #[.int .i64 a, .int .i64 b], .agg #[.int .i64 x, .int .i64 y]]
theorem Src.drew {w : World} {g n c : Nat} {A : Option Addr} {K : Int} (h : Src w g A n c K) : Src w.drew g A n c K := h
set_option maxHeartbeats 4000000 in
theorem l02Two_any (A : Option Addr) (n c B g : Nat) (K : Int) (w : World) (h : Src w g A n c K) (hb : Byts w B A n) (hBg : B ≤ g) (hBw : B ≤ w.heap.size) (hn : n ≤ 4096) (hK : K ≤ 700000000) :
    Calls Try.prog 73 #[.pointer (some ⟨g, 0, none⟩)] w (Drawn IsRatio2 w g A n c (K + 50)) := by
  have hS0 := h
  have S0 := Lib.hid h
  have HB0 := Lib.hid hb
  have hg0 : w.grownBy w (some g) := World.grownBy.refl _ _
  have l0 := h.lt
  have zz0 : w.heap.size ≤ w.heap.size := Nat.le_refl _
  clear h hb hS0
  go_enter Try.func73, Try.ntmps73
  have hS0 := S0.out
  have hB0 := HB0.out
  go_wp2_with fail
  go_at_call 83
  refine (l02Bent_any A n c B g K _ (by (repeat (first | with_reducible exact hS0 | with_reducible refine Src.alloc ?_ _ | with_reducible refine Src.drewN ?_ _ | ((with_reducible refine Src.set ?_ ?_ _); rotate_left; (focus (first | (simp; done) | (simp; omega))))))) (by (repeat (first | with_reducible exact hB0 | ((with_reducible refine Byts.alloc ?_ ?_ _); rotate_left; (focus (first | omega | (simp; done) | (simp; omega)))) | with_reducible refine Byts.drewN ?_ _ | ((with_reducible refine Byts.set ?_ ?_ _); rotate_left; (focus (first | omega | (simp; done) | (simp; omega))))))) hBg (by first | omega | (simp; omega)) hn (by omega)).mono ?_
  rintro e w1 ⟨v, ⟨a, b, rfl⟩, rfl, hs1, hq1⟩
  have S1 := Lib.hid (Src.more (L := K + 20) hs1 (by omega))
  have l1 := hs1.lt
  have hg1 : w.grownBy w1 (some g) := by (repeat (first | with_reducible exact World.grownBy.refl _ _ | with_reducible refine only_alloc ?_ _ | with_reducible refine only_drewN ?_ _ | with_reducible refine only_drew ?_ | ((with_reducible refine only_setCell ?_ ?_ _); rotate_left; (focus (first | exact .inl rfl | (left; simp; done) | (right; simp; done) | (right; simp; omega)))) | with_reducible refine World.grownBy.trans ?_ (by assumption) | with_reducible refine only_below ?_ (by assumption)))
  have zz1 := hg1.size
  have HB1 := Lib.hid (HB0.out.only (by omega) hg1 hBg)
  have xR0_1 : w1.cell? ⟨w.heap.size, 0, none⟩ = some (.int .i64 0) := hq1.cell (by simp [go_sem, *]) (by first | omega | (simp; done) | (simp; omega))
  have xR1_1 : w1.cell? ⟨w.heap.size, 1, none⟩ = some (.int .i64 0) := hq1.cell (by simp [go_sem, *]) (by first | omega | (simp; done) | (simp; omega))
  have fR_1 : ∀ o, w1.frozen? ⟨w.heap.size, o, none⟩ = false := frozen_only hq1 (by first | omega | (simp; done) | (simp; omega)) (by first | omega | (simp; done) | (simp; omega)) (fun o => by simp [go_sem, *])
  have yR_1 : w.heap.size < w1.heap.size := by have := hq1.size; (try simp at this); omega
  have xT0_1 : w1.cell? ⟨w.heap.size + 1, 0, none⟩ = some (.int .i64 0) := hq1.cell (by simp [go_sem, *]) (by first | omega | (simp; done) | (simp; omega))
  have xT1_1 : w1.cell? ⟨w.heap.size + 1, 1, none⟩ = some (.int .i64 0) := hq1.cell (by simp [go_sem, *]) (by first | omega | (simp; done) | (simp; omega))
  have fT_1 : ∀ o, w1.frozen? ⟨w.heap.size + 1, o, none⟩ = false := frozen_only hq1 (by first | omega | (simp; done) | (simp; omega)) (by first | omega | (simp; done) | (simp; omega)) (fun o => by simp [go_sem, *])
  have yT_1 : w.heap.size + 1 < w1.heap.size := by have := hq1.size; (try simp at this); omega
  clear hS0 hB0 hs1 hq1
  (try clear xR0_0 xR1_0 fR_0 yR_0)
  (try clear xT0_0 xT1_0 fT_0 yT_0)
  have dRP : w.heap.size ≠ w1.heap.size := by omega
  have dPR : w1.heap.size ≠ w.heap.size := by omega
  have dTP : w.heap.size + 1 ≠ w1.heap.size := by omega
  have dPT : w1.heap.size ≠ w.heap.size + 1 := by omega
  have hS1 := S1.out
  have hB1 := HB1.out
  go_wp2_with fail
  go_at_call 83
  refine (l02Bent_any A n c B g (K + 20) _ (by (repeat (first | with_reducible exact hS1 | with_reducible refine Src.alloc ?_ _ | with_reducible refine Src.drewN ?_ _ | ((with_reducible refine Src.set ?_ ?_ _); rotate_left; (focus (first | (simp; done) | (simp; omega))))))) (by (repeat (first | with_reducible exact hB1 | ((with_reducible refine Byts.alloc ?_ ?_ _); rotate_left; (focus (first | omega | (simp; done) | (simp; omega)))) | with_reducible refine Byts.drewN ?_ _ | ((with_reducible refine Byts.set ?_ ?_ _); rotate_left; (focus (first | omega | (simp; done) | (simp; omega))))))) hBg (by first | omega | (simp; omega)) hn (by omega)).mono ?_
  rintro e w2 ⟨v, ⟨x, y, rfl⟩, rfl, hs2, hq2⟩
  have S2 := Lib.hid (Src.more (L := K + 40) hs2 (by omega))
  have l2 := hs2.lt
  have hg2 : w.grownBy w2 (some g) := by (repeat (first | with_reducible exact World.grownBy.refl _ _ | with_reducible refine only_alloc ?_ _ | with_reducible refine only_drewN ?_ _ | with_reducible refine only_drew ?_ | ((with_reducible refine only_setCell ?_ ?_ _); rotate_left; (focus (first | exact .inl rfl | (left; simp; done) | (right; simp; done) | (right; simp; omega)))) | with_reducible refine World.grownBy.trans ?_ (by assumption) | with_reducible refine only_below ?_ (by assumption)))
  have zz2 := hg2.size
  have HB2 := Lib.hid (HB0.out.only (by omega) hg2 hBg)
  have xR0_2 : w2.cell? ⟨w.heap.size, 0, none⟩ = some (.int .i64 0) := hq2.cell (by simp [go_sem, *]) (by first | omega | (simp; done) | (simp; omega))
  have xR1_2 : w2.cell? ⟨w.heap.size, 1, none⟩ = some (.int .i64 0) := hq2.cell (by simp [go_sem, *]) (by first | omega | (simp; done) | (simp; omega))
  have fR_2 : ∀ o, w2.frozen? ⟨w.heap.size, o, none⟩ = false := frozen_only hq2 (by first | omega | (simp; done) | (simp; omega)) (by first | omega | (simp; done) | (simp; omega)) (fun o => by simp [go_sem, *])
  have yR_2 : w.heap.size < w2.heap.size := by have := hq2.size; (try simp at this); omega
  have xT0_2 : w2.cell? ⟨w.heap.size + 1, 0, none⟩ = some (.int .i64 0) := hq2.cell (by simp [go_sem, *]) (by first | omega | (simp; done) | (simp; omega))
  have xT1_2 : w2.cell? ⟨w.heap.size + 1, 1, none⟩ = some (.int .i64 0) := hq2.cell (by simp [go_sem, *]) (by first | omega | (simp; done) | (simp; omega))
  have fT_2 : ∀ o, w2.frozen? ⟨w.heap.size + 1, o, none⟩ = false := frozen_only hq2 (by first | omega | (simp; done) | (simp; omega)) (by first | omega | (simp; done) | (simp; omega)) (fun o => by simp [go_sem, *])
  have yT_2 : w.heap.size + 1 < w2.heap.size := by have := hq2.size; (try simp at this); omega
  have xP0_2 : w2.cell? ⟨w1.heap.size, 0, none⟩ = some (.int .i64 a) := hq2.cell (by simp [go_sem, *]) (by first | omega | (simp; done) | (simp; omega))
  have xP1_2 : w2.cell? ⟨w1.heap.size, 1, none⟩ = some (.int .i64 b) := hq2.cell (by simp [go_sem, *]) (by first | omega | (simp; done) | (simp; omega))
  have fP_2 : ∀ o, w2.frozen? ⟨w1.heap.size, o, none⟩ = false := frozen_only hq2 (by first | omega | (simp; done) | (simp; omega)) (by first | omega | (simp; done) | (simp; omega)) (fun o => by simp [go_sem, *])
  have yP_2 : w1.heap.size < w2.heap.size := by have := hq2.size; (try simp at this); omega
  clear hS1 hB1 hs2 hq2
  (try clear xR0_1 xR1_1 fR_1 yR_1)
  (try clear xT0_1 xT1_1 fT_1 yT_1)
  (try clear xP0_1 xP1_1 fP_1 yP_1)
  have dRQ : w.heap.size ≠ w2.heap.size := by omega
  have dQR : w2.heap.size ≠ w.heap.size := by omega
  have dTQ : w.heap.size + 1 ≠ w2.heap.size := by omega
  have dQT : w2.heap.size ≠ w.heap.size + 1 := by omega
  have dPQ : w1.heap.size ≠ w2.heap.size := by omega
  have dQP : w2.heap.size ≠ w1.heap.size := by omega
  have hS2 := S2.out
  have hB2 := HB2.out
  go_wp2_with fail
  go_at_call 60
  refine (one_any A n c B g (K + 40) 8 _ (by (repeat (first | with_reducible exact hS2 | with_reducible refine Src.alloc ?_ _ | with_reducible refine Src.drewN ?_ _ | ((with_reducible refine Src.set ?_ ?_ _); rotate_left; (focus (first | (simp; done) | (simp; omega))))))) (by (repeat (first | with_reducible exact hB2 | ((with_reducible refine Byts.alloc ?_ ?_ _); rotate_left; (focus (first | omega | (simp; done) | (simp; omega)))) | with_reducible refine Byts.drewN ?_ _ | ((with_reducible refine Byts.set ?_ ?_ _); rotate_left; (focus (first | omega | (simp; done) | (simp; omega))))))) hBg hn (by omega) (by omega)).mono ?_
  rintro e w3 ⟨v, ⟨k, rfl⟩, rfl, hs3, hq3⟩
  have S3 := Lib.hid (Src.more (L := K + 42) hs3 (by omega))
  have l3 := hs3.lt
  have hg3 : w.grownBy w3 (some g) := by (repeat (first | with_reducible exact World.grownBy.refl _ _ | with_reducible refine only_alloc ?_ _ | with_reducible refine only_drewN ?_ _ | with_reducible refine only_drew ?_ | ((with_reducible refine only_setCell ?_ ?_ _); rotate_left; (focus (first | exact .inl rfl | (left; simp; done) | (right; simp; done) | (right; simp; omega)))) | with_reducible refine World.grownBy.trans ?_ (by assumption) | with_reducible refine only_below ?_ (by assumption)))
  have zz3 := hg3.size
  have HB3 := Lib.hid (HB0.out.only (by omega) hg3 hBg)
  have xR0_3 : w3.cell? ⟨w.heap.size, 0, none⟩ = some (.int .i64 0) := hq3.cell (by simp [go_sem, *]) (by first | omega | (simp; done) | (simp; omega))
  have xR1_3 : w3.cell? ⟨w.heap.size, 1, none⟩ = some (.int .i64 0) := hq3.cell (by simp [go_sem, *]) (by first | omega | (simp; done) | (simp; omega))
  have fR_3 : ∀ o, w3.frozen? ⟨w.heap.size, o, none⟩ = false := frozen_only hq3 (by first | omega | (simp; done) | (simp; omega)) (by first | omega | (simp; done) | (simp; omega)) (fun o => by simp [go_sem, *])
  have yR_3 : w.heap.size < w3.heap.size := by have := hq3.size; (try simp at this); omega
  have xT0_3 : w3.cell? ⟨w.heap.size + 1, 0, none⟩ = some (.int .i64 0) := hq3.cell (by simp [go_sem, *]) (by first | omega | (simp; done) | (simp; omega))
  have xT1_3 : w3.cell? ⟨w.heap.size + 1, 1, none⟩ = some (.int .i64 0) := hq3.cell (by simp [go_sem, *]) (by first | omega | (simp; done) | (simp; omega))
  have fT_3 : ∀ o, w3.frozen? ⟨w.heap.size + 1, o, none⟩ = false := frozen_only hq3 (by first | omega | (simp; done) | (simp; omega)) (by first | omega | (simp; done) | (simp; omega)) (fun o => by simp [go_sem, *])
  have yT_3 : w.heap.size + 1 < w3.heap.size := by have := hq3.size; (try simp at this); omega
  have xP0_3 : w3.cell? ⟨w1.heap.size, 0, none⟩ = some (.int .i64 a) := hq3.cell (by simp [go_sem, *]) (by first | omega | (simp; done) | (simp; omega))
  have xP1_3 : w3.cell? ⟨w1.heap.size, 1, none⟩ = some (.int .i64 b) := hq3.cell (by simp [go_sem, *]) (by first | omega | (simp; done) | (simp; omega))
  have fP_3 : ∀ o, w3.frozen? ⟨w1.heap.size, o, none⟩ = false := frozen_only hq3 (by first | omega | (simp; done) | (simp; omega)) (by first | omega | (simp; done) | (simp; omega)) (fun o => by simp [go_sem, *])
  have yP_3 : w1.heap.size < w3.heap.size := by have := hq3.size; (try simp at this); omega
  have xQ0_3 : w3.cell? ⟨w2.heap.size, 0, none⟩ = some (.int .i64 x) := hq3.cell (by simp [go_sem, *]) (by first | omega | (simp; done) | (simp; omega))
  have xQ1_3 : w3.cell? ⟨w2.heap.size, 1, none⟩ = some (.int .i64 y) := hq3.cell (by simp [go_sem, *]) (by first | omega | (simp; done) | (simp; omega))
  have fQ_3 : ∀ o, w3.frozen? ⟨w2.heap.size, o, none⟩ = false := frozen_only hq3 (by first | omega | (simp; done) | (simp; omega)) (by first | omega | (simp; done) | (simp; omega)) (fun o => by simp [go_sem, *])
  have yQ_3 : w2.heap.size < w3.heap.size := by have := hq3.size; (try simp at this); omega
  clear hS2 hB2 hs3 hq3
  (try clear xR0_2 xR1_2 fR_2 yR_2)
  (try clear xT0_2 xT1_2 fT_2 yT_2)
  (try clear xP0_2 xP1_2 fP_2 yP_2)
  (try clear xQ0_2 xQ1_2 fQ_2 yQ_2)
  cases k
  · skip
    go_wp2
    go_region
    all_goals
      go_wp2
      refine bodyPost_ret (v := .tuple #[.agg #[.int .i64 a, .int .i64 b], .agg #[.int .i64 x, .int .i64 y]]) ?_ rfl ⟨_, ⟨_, _, _, _, rfl⟩, rfl, ?_, ?_⟩
      · simp [results, Try.results73, go_sem, *]
      · have hS3 := S3.out
        refine Src.more (K := K + 42) ?_ (by omega)
        exact (by (repeat (first | with_reducible exact hS3 | with_reducible refine Src.alloc ?_ _ | with_reducible refine Src.drewN ?_ _ | with_reducible refine Src.drew ?_ | ((with_reducible refine Src.set ?_ ?_ _); rotate_left; (focus (first | (simp; done) | (simp; omega)))))))
      · (repeat (first | with_reducible exact World.grownBy.refl _ _ | with_reducible refine only_alloc ?_ _ | with_reducible refine only_drewN ?_ _ | with_reducible refine only_drew ?_ | ((with_reducible refine only_setCell ?_ ?_ _); rotate_left; (focus (first | exact .inl rfl | (left; simp; done) | (right; simp; done) | (right; simp; omega)))) | with_reducible refine World.grownBy.trans ?_ (by assumption) | with_reducible refine only_below ?_ (by assumption)))
  · skip
    go_wp2
    go_region
    all_goals
      go_wp2
      refine bodyPost_ret (v := .tuple #[.agg #[.int .i64 a, .int .i64 b], .agg #[.int .i64 a, .int .i64 b]]) ?_ rfl ⟨_, ⟨_, _, _, _, rfl⟩, rfl, ?_, ?_⟩
      · simp [results, Try.results73, go_sem, *]
      · have hS3 := S3.out
        refine Src.more (K := K + 42) ?_ (by omega)
        exact (by (repeat (first | with_reducible exact hS3 | with_reducible refine Src.alloc ?_ _ | with_reducible refine Src.drewN ?_ _ | with_reducible refine Src.drew ?_ | ((with_reducible refine Src.set ?_ ?_ _); rotate_left; (focus (first | (simp; done) | (simp; omega)))))))
      · (repeat (first | with_reducible exact World.grownBy.refl _ _ | with_reducible refine only_alloc ?_ _ | with_reducible refine only_drewN ?_ _ | with_reducible refine only_drew ?_ | ((with_reducible refine only_setCell ?_ ?_ _); rotate_left; (focus (first | exact .inl rfl | (left; simp; done) | (right; simp; done) | (right; simp; omega)))) | with_reducible refine World.grownBy.trans ?_ (by assumption) | with_reducible refine only_below ?_ (by assumption)))
set_option maxHeartbeats 8000000 in
theorem DrawLunationsApart_any (A : Option Addr) (n c : Nat) (w : World) (hb : Byts w w.heap.size A n) (hn : n ≤ 4096) :
    Calls Try.prog 37 #[.slice A n c] w fun e w' => (∃ a b x y : Int, e = .returned (.tuple #[.agg #[.int .i64 a, .int .i64 b], .agg #[.int .i64 x, .int .i64 y]])) ∧ Below w.heap.size w w' := by
  have HB0 := Lib.hid hb
  clear hb
  go_enter Try.func37, Try.ntmps37
  go_wp2_with fail
  go_at_call 59
  refine (l00From_any A n c _).mono ?_
  rintro e w1 ⟨rfl, hs1, hb1⟩
  have xR0_1 : w1.cell? ⟨w.heap.size, 0, none⟩ = some (.int .i64 0) := cell_call hb1 (by simp; try omega) (by simp [go_sem])
  have xR1_1 : w1.cell? ⟨w.heap.size, 1, none⟩ = some (.int .i64 0) := cell_call hb1 (by simp; try omega) (by simp [go_sem])
  have fR_1 : ∀ o, w1.frozen? ⟨w.heap.size, o, none⟩ = false := fun o => (hb1.frozen (by simp; try omega)).trans (by simp [go_sem])
  have yR_1 : w.heap.size < w1.heap.size := by have := hb1.size; (try simp at this); omega
  have xT0_1 : w1.cell? ⟨w.heap.size + 1, 0, none⟩ = some (.int .i64 0) := cell_call hb1 (by simp; try omega) (by simp [go_sem])
  have xT1_1 : w1.cell? ⟨w.heap.size + 1, 1, none⟩ = some (.int .i64 0) := cell_call hb1 (by simp; try omega) (by simp [go_sem])
  have fT_1 : ∀ o, w1.frozen? ⟨w.heap.size + 1, o, none⟩ = false := fun o => (hb1.frozen (by simp; try omega)).trans (by simp [go_sem])
  have yT_1 : w.heap.size + 1 < w1.heap.size := by have := hb1.size; (try simp at this); omega
  have S1 : Hid (Src w1 (w.heap.size + 1 + 1) A n c 0) := Lib.hid (by simpa using hs1)
  have l1 : w.heap.size + 1 + 1 < w1.heap.size := S1.out.lt
  have hBel1 : Below w.heap.size w w1 := by (repeat (first | with_reducible exact Below.refl _ _ | with_reducible refine below_alloc ?_ _ | with_reducible refine below_drewN ?_ _ | with_reducible refine Below.drew ?_ | ((with_reducible refine below_set ?_ ?_ _); rotate_left; (focus (first | (simp; done) | (simp; omega) | omega))) | with_reducible refine below_call ?_ (by assumption)))
  have HB1 := Lib.hid (HB0.out.below hBel1)
  have zz1 := hBel1.size
  have hg1 : w.grownBy w1 (some (w.heap.size + 1 + 1)) := only_of_below hBel1
  have hlo0 : w.heap.size < w.heap.size + 1 + 1 := by omega
  have hlo1 : w.heap.size + 1 < w.heap.size + 1 + 1 := by omega
  have hBg : w.heap.size ≤ w.heap.size + 1 + 1 := by omega
  have hBw : w.heap.size ≤ w.heap.size := Nat.le_refl _
  clear hs1 hb1 hBel1
  go_wp2_with fail
  generalize w.heap.size + 1 + 1 = g at *
  have hS1 := S1.out
  have hB1 := HB1.out
  go_wp2_with fail
  go_at_call 60
  refine (one_any A n c w.heap.size g 0 3 _ (by (repeat (first | with_reducible exact hS1 | with_reducible refine Src.alloc ?_ _ | with_reducible refine Src.drewN ?_ _ | ((with_reducible refine Src.set ?_ ?_ _); rotate_left; (focus (first | (simp; done) | (simp; omega))))))) (by (repeat (first | with_reducible exact hB1 | ((with_reducible refine Byts.alloc ?_ ?_ _); rotate_left; (focus (first | omega | (simp; done) | (simp; omega)))) | with_reducible refine Byts.drewN ?_ _ | ((with_reducible refine Byts.set ?_ ?_ _); rotate_left; (focus (first | omega | (simp; done) | (simp; omega))))))) hBg hn (by omega) (by omega)).mono ?_
  rintro e w2 ⟨v, ⟨k, rfl⟩, rfl, hs2, hq2⟩
  have S2 := Lib.hid (Src.more (L := 0 + 2) hs2 (by omega))
  have l2 := hs2.lt
  have hg2 : w.grownBy w2 (some g) := by (repeat (first | with_reducible exact World.grownBy.refl _ _ | with_reducible refine only_alloc ?_ _ | with_reducible refine only_drewN ?_ _ | with_reducible refine only_drew ?_ | ((with_reducible refine only_setCell ?_ ?_ _); rotate_left; (focus (first | exact .inl rfl | (left; simp; done) | (right; simp; done) | (right; simp; omega)))) | with_reducible refine World.grownBy.trans ?_ (by assumption) | with_reducible refine only_below ?_ (by assumption)))
  have zz2 := hg2.size
  have HB2 := Lib.hid (HB0.out.only (by omega) hg2 hBg)
  have xR0_2 : w2.cell? ⟨w.heap.size, 0, none⟩ = some (.int .i64 0) := hq2.cell (by simp [go_sem, *]) (by first | omega | (simp; done) | (simp; omega))
  have xR1_2 : w2.cell? ⟨w.heap.size, 1, none⟩ = some (.int .i64 0) := hq2.cell (by simp [go_sem, *]) (by first | omega | (simp; done) | (simp; omega))
  have fR_2 : ∀ o, w2.frozen? ⟨w.heap.size, o, none⟩ = false := frozen_only hq2 (by first | omega | (simp; done) | (simp; omega)) (by first | omega | (simp; done) | (simp; omega)) (fun o => by simp [go_sem, *])
  have yR_2 : w.heap.size < w2.heap.size := by have := hq2.size; (try simp at this); omega
  have xT0_2 : w2.cell? ⟨w.heap.size + 1, 0, none⟩ = some (.int .i64 0) := hq2.cell (by simp [go_sem, *]) (by first | omega | (simp; done) | (simp; omega))
  have xT1_2 : w2.cell? ⟨w.heap.size + 1, 1, none⟩ = some (.int .i64 0) := hq2.cell (by simp [go_sem, *]) (by first | omega | (simp; done) | (simp; omega))
  have fT_2 : ∀ o, w2.frozen? ⟨w.heap.size + 1, o, none⟩ = false := frozen_only hq2 (by first | omega | (simp; done) | (simp; omega)) (by first | omega | (simp; done) | (simp; omega)) (fun o => by simp [go_sem, *])
  have yT_2 : w.heap.size + 1 < w2.heap.size := by have := hq2.size; (try simp at this); omega
  clear hS1 hB1 hs2 hq2
  (try clear xR0_1 xR1_1 fR_1 yR_1)
  (try clear xT0_1 xT1_1 fT_1 yT_1)
  cases k
  · skip
    have hS2 := S2.out
    have hB2 := HB2.out
    go_wp2_with fail
    go_at_call 74
    refine (l19Draw_any A n c w.heap.size g (0 + 2) _ (by (repeat (first | with_reducible exact hS2 | with_reducible refine Src.alloc ?_ _ | with_reducible refine Src.drewN ?_ _ | ((with_reducible refine Src.set ?_ ?_ _); rotate_left; (focus (first | (simp; done) | (simp; omega))))))) (by (repeat (first | with_reducible exact hB2 | ((with_reducible refine Byts.alloc ?_ ?_ _); rotate_left; (focus (first | omega | (simp; done) | (simp; omega)))) | with_reducible refine Byts.drewN ?_ _ | ((with_reducible refine Byts.set ?_ ?_ _); rotate_left; (focus (first | omega | (simp; done) | (simp; omega))))))) hBg (by first | omega | (simp; omega)) hn (by omega)).mono ?_
    rintro e w4 ⟨v, ⟨a, b, z, rfl⟩, rfl, hs4, hq4⟩
    have S4 := Lib.hid (Src.more (L := 0 + 62) hs4 (by omega))
    have l4 := hs4.lt
    have hg4 : w.grownBy w4 (some g) := by (repeat (first | with_reducible exact World.grownBy.refl _ _ | with_reducible refine only_alloc ?_ _ | with_reducible refine only_drewN ?_ _ | with_reducible refine only_drew ?_ | ((with_reducible refine only_setCell ?_ ?_ _); rotate_left; (focus (first | exact .inl rfl | (left; simp; done) | (right; simp; done) | (right; simp; omega)))) | with_reducible refine World.grownBy.trans ?_ (by assumption) | with_reducible refine only_below ?_ (by assumption)))
    have zz4 := hg4.size
    have HB4 := Lib.hid (HB0.out.only (by omega) hg4 hBg)
    have xR0_4 : w4.cell? ⟨w.heap.size, 0, none⟩ = some (.int .i64 0) := hq4.cell (by simp [go_sem, *]) (by first | omega | (simp; done) | (simp; omega))
    have xR1_4 : w4.cell? ⟨w.heap.size, 1, none⟩ = some (.int .i64 0) := hq4.cell (by simp [go_sem, *]) (by first | omega | (simp; done) | (simp; omega))
    have fR_4 : ∀ o, w4.frozen? ⟨w.heap.size, o, none⟩ = false := frozen_only hq4 (by first | omega | (simp; done) | (simp; omega)) (by first | omega | (simp; done) | (simp; omega)) (fun o => by simp [go_sem, *])
    have yR_4 : w.heap.size < w4.heap.size := by have := hq4.size; (try simp at this); omega
    have xT0_4 : w4.cell? ⟨w.heap.size + 1, 0, none⟩ = some (.int .i64 0) := hq4.cell (by simp [go_sem, *]) (by first | omega | (simp; done) | (simp; omega))
    have xT1_4 : w4.cell? ⟨w.heap.size + 1, 1, none⟩ = some (.int .i64 0) := hq4.cell (by simp [go_sem, *]) (by first | omega | (simp; done) | (simp; omega))
    have fT_4 : ∀ o, w4.frozen? ⟨w.heap.size + 1, o, none⟩ = false := frozen_only hq4 (by first | omega | (simp; done) | (simp; omega)) (by first | omega | (simp; done) | (simp; omega)) (fun o => by simp [go_sem, *])
    have yT_4 : w.heap.size + 1 < w4.heap.size := by have := hq4.size; (try simp at this); omega
    clear hS2 hB2 hs4 hq4
    (try clear xR0_2 xR1_2 fR_2 yR_2)
    (try clear xT0_2 xT1_2 fT_2 yT_2)
    have dRP : w.heap.size ≠ w4.heap.size := by omega
    have dPR : w4.heap.size ≠ w.heap.size := by omega
    have dTP : w.heap.size + 1 ≠ w4.heap.size := by omega
    have dPT : w4.heap.size ≠ w.heap.size + 1 := by omega
    have hS4 := S4.out
    have hB4 := HB4.out
    go_wp2_with fail
    go_at_call 74
    refine (l19Draw_any A n c w.heap.size g (0 + 62) _ (by (repeat (first | with_reducible exact hS4 | with_reducible refine Src.alloc ?_ _ | with_reducible refine Src.drewN ?_ _ | ((with_reducible refine Src.set ?_ ?_ _); rotate_left; (focus (first | (simp; done) | (simp; omega))))))) (by (repeat (first | with_reducible exact hB4 | ((with_reducible refine Byts.alloc ?_ ?_ _); rotate_left; (focus (first | omega | (simp; done) | (simp; omega)))) | with_reducible refine Byts.drewN ?_ _ | ((with_reducible refine Byts.set ?_ ?_ _); rotate_left; (focus (first | omega | (simp; done) | (simp; omega))))))) hBg (by first | omega | (simp; omega)) hn (by omega)).mono ?_
    rintro e w5 ⟨v, ⟨x, y, u, rfl⟩, rfl, hs5, hq5⟩
    have S5 := Lib.hid (Src.more (L := 0 + 122) hs5 (by omega))
    have l5 := hs5.lt
    have hg5 : w.grownBy w5 (some g) := by (repeat (first | with_reducible exact World.grownBy.refl _ _ | with_reducible refine only_alloc ?_ _ | with_reducible refine only_drewN ?_ _ | with_reducible refine only_drew ?_ | ((with_reducible refine only_setCell ?_ ?_ _); rotate_left; (focus (first | exact .inl rfl | (left; simp; done) | (right; simp; done) | (right; simp; omega)))) | with_reducible refine World.grownBy.trans ?_ (by assumption) | with_reducible refine only_below ?_ (by assumption)))
    have zz5 := hg5.size
    have HB5 := Lib.hid (HB0.out.only (by omega) hg5 hBg)
    have xR0_5 : w5.cell? ⟨w.heap.size, 0, none⟩ = some (.int .i64 0) := hq5.cell (by simp [go_sem, *]) (by first | omega | (simp; done) | (simp; omega))
    have xR1_5 : w5.cell? ⟨w.heap.size, 1, none⟩ = some (.int .i64 0) := hq5.cell (by simp [go_sem, *]) (by first | omega | (simp; done) | (simp; omega))
    have fR_5 : ∀ o, w5.frozen? ⟨w.heap.size, o, none⟩ = false := frozen_only hq5 (by first | omega | (simp; done) | (simp; omega)) (by first | omega | (simp; done) | (simp; omega)) (fun o => by simp [go_sem, *])
    have yR_5 : w.heap.size < w5.heap.size := by have := hq5.size; (try simp at this); omega
    have xT0_5 : w5.cell? ⟨w.heap.size + 1, 0, none⟩ = some (.int .i64 0) := hq5.cell (by simp [go_sem, *]) (by first | omega | (simp; done) | (simp; omega))
    have xT1_5 : w5.cell? ⟨w.heap.size + 1, 1, none⟩ = some (.int .i64 0) := hq5.cell (by simp [go_sem, *]) (by first | omega | (simp; done) | (simp; omega))
    have fT_5 : ∀ o, w5.frozen? ⟨w.heap.size + 1, o, none⟩ = false := frozen_only hq5 (by first | omega | (simp; done) | (simp; omega)) (by first | omega | (simp; done) | (simp; omega)) (fun o => by simp [go_sem, *])
    have yT_5 : w.heap.size + 1 < w5.heap.size := by have := hq5.size; (try simp at this); omega
    have xP0_5 : w5.cell? ⟨w4.heap.size, 0, none⟩ = some (.int .i64 a) := hq5.cell (by simp [go_sem, *]) (by first | omega | (simp; done) | (simp; omega))
    have xP1_5 : w5.cell? ⟨w4.heap.size, 1, none⟩ = some (.int .i64 b) := hq5.cell (by simp [go_sem, *]) (by first | omega | (simp; done) | (simp; omega))
    have xP2_5 : w5.cell? ⟨w4.heap.size, 2, none⟩ = some (.int .i64 z) := hq5.cell (by simp [go_sem, *]) (by first | omega | (simp; done) | (simp; omega))
    have fP_5 : ∀ o, w5.frozen? ⟨w4.heap.size, o, none⟩ = false := frozen_only hq5 (by first | omega | (simp; done) | (simp; omega)) (by first | omega | (simp; done) | (simp; omega)) (fun o => by simp [go_sem, *])
    have yP_5 : w4.heap.size < w5.heap.size := by have := hq5.size; (try simp at this); omega
    clear hS4 hB4 hs5 hq5
    (try clear xR0_4 xR1_4 fR_4 yR_4)
    (try clear xT0_4 xT1_4 fT_4 yT_4)
    (try clear xP0_4 xP1_4 xP2_4 fP_4 yP_4)
    have dRQ : w.heap.size ≠ w5.heap.size := by omega
    have dQR : w5.heap.size ≠ w.heap.size := by omega
    have dTQ : w.heap.size + 1 ≠ w5.heap.size := by omega
    have dQT : w5.heap.size ≠ w.heap.size + 1 := by omega
    skip
    have hBk : Below w.heap.size w w5 := below_only (Below.refl _ _) hg5 (Nat.le_refl _) hBg
    go_wp2
    go_region
    all_goals
      go_wp2
      refine bodyPost_ret (v := .tuple #[.agg #[.int .i64 a, .int .i64 b], .agg #[.int .i64 x, .int .i64 y]]) ?_ rfl ⟨⟨_, _, _, _, rfl⟩, ?_⟩
      · simp [results, Try.results37, go_sem, *]
      · (repeat (first | with_reducible exact hBk | with_reducible refine below_alloc ?_ _ | with_reducible refine below_drewN ?_ _ | with_reducible refine Below.drew ?_ | ((with_reducible refine below_set ?_ ?_ _); rotate_left; (focus (first | (simp; done) | (simp; omega) | omega)))))
  · skip
    have hS2 := S2.out
    have hB2 := HB2.out
    go_wp2_with fail
    go_at_call 73
    refine (l02Two_any A n c w.heap.size g (0 + 2) _ (by (repeat (first | with_reducible exact hS2 | with_reducible refine Src.alloc ?_ _ | with_reducible refine Src.drewN ?_ _ | ((with_reducible refine Src.set ?_ ?_ _); rotate_left; (focus (first | (simp; done) | (simp; omega))))))) (by (repeat (first | with_reducible exact hB2 | ((with_reducible refine Byts.alloc ?_ ?_ _); rotate_left; (focus (first | omega | (simp; done) | (simp; omega)))) | with_reducible refine Byts.drewN ?_ _ | ((with_reducible refine Byts.set ?_ ?_ _); rotate_left; (focus (first | omega | (simp; done) | (simp; omega))))))) hBg (by first | omega | (simp; omega)) hn (by omega)).mono ?_
    rintro e w3 ⟨v, ⟨a, b, x, y, rfl⟩, rfl, hs3, hq3⟩
    have S3 := Lib.hid (Src.more (L := 0 + 52) hs3 (by omega))
    have l3 := hs3.lt
    have hg3 : w.grownBy w3 (some g) := by (repeat (first | with_reducible exact World.grownBy.refl _ _ | with_reducible refine only_alloc ?_ _ | with_reducible refine only_drewN ?_ _ | with_reducible refine only_drew ?_ | ((with_reducible refine only_setCell ?_ ?_ _); rotate_left; (focus (first | exact .inl rfl | (left; simp; done) | (right; simp; done) | (right; simp; omega)))) | with_reducible refine World.grownBy.trans ?_ (by assumption) | with_reducible refine only_below ?_ (by assumption)))
    have zz3 := hg3.size
    have HB3 := Lib.hid (HB0.out.only (by omega) hg3 hBg)
    have xR0_3 : w3.cell? ⟨w.heap.size, 0, none⟩ = some (.int .i64 0) := hq3.cell (by simp [go_sem, *]) (by first | omega | (simp; done) | (simp; omega))
    have xR1_3 : w3.cell? ⟨w.heap.size, 1, none⟩ = some (.int .i64 0) := hq3.cell (by simp [go_sem, *]) (by first | omega | (simp; done) | (simp; omega))
    have fR_3 : ∀ o, w3.frozen? ⟨w.heap.size, o, none⟩ = false := frozen_only hq3 (by first | omega | (simp; done) | (simp; omega)) (by first | omega | (simp; done) | (simp; omega)) (fun o => by simp [go_sem, *])
    have yR_3 : w.heap.size < w3.heap.size := by have := hq3.size; (try simp at this); omega
    have xT0_3 : w3.cell? ⟨w.heap.size + 1, 0, none⟩ = some (.int .i64 0) := hq3.cell (by simp [go_sem, *]) (by first | omega | (simp; done) | (simp; omega))
    have xT1_3 : w3.cell? ⟨w.heap.size + 1, 1, none⟩ = some (.int .i64 0) := hq3.cell (by simp [go_sem, *]) (by first | omega | (simp; done) | (simp; omega))
    have fT_3 : ∀ o, w3.frozen? ⟨w.heap.size + 1, o, none⟩ = false := frozen_only hq3 (by first | omega | (simp; done) | (simp; omega)) (by first | omega | (simp; done) | (simp; omega)) (fun o => by simp [go_sem, *])
    have yT_3 : w.heap.size + 1 < w3.heap.size := by have := hq3.size; (try simp at this); omega
    clear hS2 hB2 hs3 hq3
    (try clear xR0_2 xR1_2 fR_2 yR_2)
    (try clear xT0_2 xT1_2 fT_2 yT_2)
    have hBk : Below w.heap.size w w3 := below_only (Below.refl _ _) hg3 (Nat.le_refl _) hBg
    go_wp2
    refine bodyPost_ret (v := .tuple #[.agg #[.int .i64 a, .int .i64 b], .agg #[.int .i64 x, .int .i64 y]]) ?_ rfl ⟨⟨_, _, _, _, rfl⟩, ?_⟩
    · simp [results, Try.results37, go_sem, *]
    · (repeat (first | with_reducible exact hBk | with_reducible refine below_alloc ?_ _ | with_reducible refine below_drewN ?_ _ | with_reducible refine Below.drew ?_ | ((with_reducible refine below_set ?_ ?_ _); rotate_left; (focus (first | (simp; done) | (simp; omega) | omega)))))
end Go.Proofs.Ytanfccdeacohfaa
