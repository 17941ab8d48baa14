/- The draw of a moon work. No conditions but that the bytes lie apart from the source. -/
import Derived.Test.YtanfccdeacohfaaDrawMoon
import Derived.Deep.DeepCutAuto
import Derived.Deep.CutBlock
namespace Go.Proofs.Ytanfccdeacohfaa
open Go.RowKit
set_option linter.unusedVariables false
set_option linter.unusedSimpArgs false
set_option maxHeartbeats 16000000 in
theorem l19Draw_any (A : Option Addr) (n c B g : Nat) (K : Int) (w : World) (h : Src w g A n c K) (hb : Byts w B A n) (hBg : B ≤ g) (hBw : B ≤ w.heap.size) (hn : n ≤ 4096) (hK : K ≤ 700000000) :
    Calls Try.prog 74 #[.pointer (some ⟨g, 0, none⟩)] w (Drawn IsMoon w g A n c (K + 60)) := by
  have hS0 := h
  have S0 := Lib.hid h
  have HB0 := Lib.hid hb
  have hg0 : w.grownBy w (some g) := World.grownBy.refl _ _
  have l0 := h.lt
  have zz0 : w.heap.size ≤ w.heap.size := Nat.le_refl _
  clear h hb hS0
  go_enter Try.func74, Try.ntmps74
  have hS0 := S0.out
  have hB0 := HB0.out
  go_wp2_with fail
  go_at_call 62
  refine (pick_any A n c B g K 5 _ (by (repeat (first | with_reducible exact hS0 | with_reducible refine Src.alloc ?_ _ | with_reducible refine Src.drewN ?_ _ | ((with_reducible refine Src.set ?_ ?_ _); rotate_left; (focus (first | (simp; done) | (simp; omega))))))) (by (repeat (first | with_reducible exact hB0 | ((with_reducible refine Byts.alloc ?_ ?_ _); rotate_left; (focus (first | omega | (simp; done) | (simp; omega)))) | with_reducible refine Byts.drewN ?_ _ | ((with_reducible refine Byts.set ?_ ?_ _); rotate_left; (focus (first | omega | (simp; done) | (simp; omega))))))) hBg hn (by omega) (by omega)).mono ?_
  rintro e w1 ⟨v, ⟨x, rfl, x0, x1⟩, rfl, hs1, hq1⟩
  have S1 := Lib.hid (Src.more (L := K + 2) hs1 (by omega))
  have l1 := hs1.lt
  have hg1 : w.grownBy w1 (some g) := by (repeat (first | with_reducible exact World.grownBy.refl _ _ | with_reducible refine only_alloc ?_ _ | with_reducible refine only_drewN ?_ _ | with_reducible refine only_drew ?_ | ((with_reducible refine only_setCell ?_ ?_ _); rotate_left; (focus (first | exact .inl rfl | (left; simp; done) | (right; simp; done) | (right; simp; omega)))) | with_reducible refine World.grownBy.trans ?_ (by assumption) | with_reducible refine only_below ?_ (by assumption)))
  have zz1 := hg1.size
  have HB1 := Lib.hid (HB0.out.only (by omega) hg1 hBg)
  have xR0_1 : w1.cell? ⟨w.heap.size, 0, none⟩ = some (.int .i64 0) := hq1.cell (by simp [go_sem, *]) (by first | omega | (simp; done) | (simp; omega))
  have xR1_1 : w1.cell? ⟨w.heap.size, 1, none⟩ = some (.int .i64 0) := hq1.cell (by simp [go_sem, *]) (by first | omega | (simp; done) | (simp; omega))
  have xR2_1 : w1.cell? ⟨w.heap.size, 2, none⟩ = some (.int .i64 0) := hq1.cell (by simp [go_sem, *]) (by first | omega | (simp; done) | (simp; omega))
  have fR_1 : ∀ o, w1.frozen? ⟨w.heap.size, o, none⟩ = false := frozen_only hq1 (by first | omega | (simp; done) | (simp; omega)) (by first | omega | (simp; done) | (simp; omega)) (fun o => by simp [go_sem, *])
  have yR_1 : w.heap.size < w1.heap.size := by have := hq1.size; (try simp at this); omega
  have xP0_1 : w1.cell? ⟨w.heap.size + 1, 0, none⟩ = some (.int .i64 0) := hq1.cell (by simp [go_sem, *]) (by first | omega | (simp; done) | (simp; omega))
  have xP1_1 : w1.cell? ⟨w.heap.size + 1, 1, none⟩ = some (.int .i64 0) := hq1.cell (by simp [go_sem, *]) (by first | omega | (simp; done) | (simp; omega))
  have fP_1 : ∀ o, w1.frozen? ⟨w.heap.size + 1, o, none⟩ = false := frozen_only hq1 (by first | omega | (simp; done) | (simp; omega)) (by first | omega | (simp; done) | (simp; omega)) (fun o => by simp [go_sem, *])
  have yP_1 : w.heap.size + 1 < w1.heap.size := by have := hq1.size; (try simp at this); omega
  clear hS0 hB0 hs1 hq1
  (try clear xR0_0 xR1_0 xR2_0 fR_0 yR_0)
  (try clear xP0_0 xP1_0 fP_0 yP_0)
  rw [if_neg (by omega)] at x1
  go_upto_block 0 with fail
  go_cut [3] (fun s3 wx => s3 = .pointer (some ⟨w.heap.size + 1, 0, none⟩) ∧ MoonCut w wx g A n c (K + 10))
  case first =>
    by_cases ex0 : x = 0
    · subst ex0
      go_wp2_with fail
      go_meet
      have hS1 := S1.out
      refine ⟨rfl, _, _, ?_, by (repeat (first | with_reducible exact World.grownBy.refl _ _ | with_reducible refine only_alloc ?_ _ | with_reducible refine only_drewN ?_ _ | with_reducible refine only_drew ?_ | ((with_reducible refine only_setCell ?_ ?_ _); rotate_left; (focus (first | exact .inl rfl | (left; simp; done) | (right; simp; done) | (right; simp; omega)))) | with_reducible refine World.grownBy.trans ?_ (by assumption) | with_reducible refine only_below ?_ (by assumption))), by simp [go_sem, *]; rfl, by simp [go_sem, *]; rfl, by simp [go_sem, *], by simp [go_sem, *], by simp [go_sem, *], fun o => by simp [go_sem, *], fun o => by simp [go_sem, *]⟩
      refine Src.more (K := K + 2) ?_ (by omega)
      exact (by (repeat (first | with_reducible exact hS1 | with_reducible refine Src.alloc ?_ _ | with_reducible refine Src.drewN ?_ _ | ((with_reducible refine Src.set ?_ ?_ _); rotate_left; (focus (first | (simp; done) | (simp; omega)))))))
    · have nx0 : (x == 0) = false := by simpa using ex0
      by_cases ex1 : x = 1
      · subst ex1
        go_wp2_with fail
        go_meet
        have hS1 := S1.out
        refine ⟨rfl, _, _, ?_, by (repeat (first | with_reducible exact World.grownBy.refl _ _ | with_reducible refine only_alloc ?_ _ | with_reducible refine only_drewN ?_ _ | with_reducible refine only_drew ?_ | ((with_reducible refine only_setCell ?_ ?_ _); rotate_left; (focus (first | exact .inl rfl | (left; simp; done) | (right; simp; done) | (right; simp; omega)))) | with_reducible refine World.grownBy.trans ?_ (by assumption) | with_reducible refine only_below ?_ (by assumption))), by simp [go_sem, *]; rfl, by simp [go_sem, *]; rfl, by simp [go_sem, *], by simp [go_sem, *], by simp [go_sem, *], fun o => by simp [go_sem, *], fun o => by simp [go_sem, *]⟩
        refine Src.more (K := K + 2) ?_ (by omega)
        exact (by (repeat (first | with_reducible exact hS1 | with_reducible refine Src.alloc ?_ _ | with_reducible refine Src.drewN ?_ _ | ((with_reducible refine Src.set ?_ ?_ _); rotate_left; (focus (first | (simp; done) | (simp; omega)))))))
      · have nx1 : (x == 1) = false := by simpa using ex1
        by_cases ex2 : x = 2
        · subst ex2
          have hS1 := S1.out
          have hB1 := HB1.out
          go_wp2_with fail
          go_at_call 62
          refine (pick_any A n c B g (K + 2) 30 _ (by (repeat (first | with_reducible exact hS1 | with_reducible refine Src.alloc ?_ _ | with_reducible refine Src.drewN ?_ _ | ((with_reducible refine Src.set ?_ ?_ _); rotate_left; (focus (first | (simp; done) | (simp; omega))))))) (by (repeat (first | with_reducible exact hB1 | ((with_reducible refine Byts.alloc ?_ ?_ _); rotate_left; (focus (first | omega | (simp; done) | (simp; omega)))) | with_reducible refine Byts.drewN ?_ _ | ((with_reducible refine Byts.set ?_ ?_ _); rotate_left; (focus (first | omega | (simp; done) | (simp; omega))))))) hBg hn (by omega) (by omega)).mono ?_
          rintro e w2 ⟨v, ⟨t, rfl, t0, t1⟩, rfl, hs2, hq2⟩
          have S2 := Lib.hid (Src.more (L := K + 4) hs2 (by omega))
          have l2 := hs2.lt
          have hg2 : w.grownBy w2 (some g) := by (repeat (first | with_reducible exact World.grownBy.refl _ _ | with_reducible refine only_alloc ?_ _ | with_reducible refine only_drewN ?_ _ | with_reducible refine only_drew ?_ | ((with_reducible refine only_setCell ?_ ?_ _); rotate_left; (focus (first | exact .inl rfl | (left; simp; done) | (right; simp; done) | (right; simp; omega)))) | with_reducible refine World.grownBy.trans ?_ (by assumption) | with_reducible refine only_below ?_ (by assumption)))
          have zz2 := hg2.size
          have HB2 := Lib.hid (HB0.out.only (by omega) hg2 hBg)
          have xR0_2 : w2.cell? ⟨w.heap.size, 0, none⟩ = some (.int .i64 0) := hq2.cell (by simp [go_sem, *]) (by first | omega | (simp; done) | (simp; omega))
          have xR1_2 : w2.cell? ⟨w.heap.size, 1, none⟩ = some (.int .i64 0) := hq2.cell (by simp [go_sem, *]) (by first | omega | (simp; done) | (simp; omega))
          have xR2_2 : w2.cell? ⟨w.heap.size, 2, none⟩ = some (.int .i64 0) := hq2.cell (by simp [go_sem, *]) (by first | omega | (simp; done) | (simp; omega))
          have fR_2 : ∀ o, w2.frozen? ⟨w.heap.size, o, none⟩ = false := frozen_only hq2 (by first | omega | (simp; done) | (simp; omega)) (by first | omega | (simp; done) | (simp; omega)) (fun o => by simp [go_sem, *])
          have yR_2 : w.heap.size < w2.heap.size := by have := hq2.size; (try simp at this); omega
          have xP0_2 : w2.cell? ⟨w.heap.size + 1, 0, none⟩ = some (.int .i64 0) := hq2.cell (by simp [go_sem, *]) (by first | omega | (simp; done) | (simp; omega))
          have xP1_2 : w2.cell? ⟨w.heap.size + 1, 1, none⟩ = some (.int .i64 0) := hq2.cell (by simp [go_sem, *]) (by first | omega | (simp; done) | (simp; omega))
          have fP_2 : ∀ o, w2.frozen? ⟨w.heap.size + 1, o, none⟩ = false := frozen_only hq2 (by first | omega | (simp; done) | (simp; omega)) (by first | omega | (simp; done) | (simp; omega)) (fun o => by simp [go_sem, *])
          have yP_2 : w.heap.size + 1 < w2.heap.size := by have := hq2.size; (try simp at this); omega
          clear hS1 hB1 hs2 hq2
          (try clear xR0_1 xR1_1 xR2_1 fR_1 yR_1)
          (try clear xP0_1 xP1_1 fP_1 yP_1)
          rw [if_neg (by omega)] at t1
          go_wp2_with fail
          go_meet
          have hS2 := S2.out
          refine ⟨rfl, _, _, ?_, by (repeat (first | with_reducible exact World.grownBy.refl _ _ | with_reducible refine only_alloc ?_ _ | with_reducible refine only_drewN ?_ _ | with_reducible refine only_drew ?_ | ((with_reducible refine only_setCell ?_ ?_ _); rotate_left; (focus (first | exact .inl rfl | (left; simp; done) | (right; simp; done) | (right; simp; omega)))) | with_reducible refine World.grownBy.trans ?_ (by assumption) | with_reducible refine only_below ?_ (by assumption))), by simp [go_sem, *]; rfl, by simp [go_sem, *]; rfl, by simp [go_sem, *], by simp [go_sem, *], by simp [go_sem, *], fun o => by simp [go_sem, *], fun o => by simp [go_sem, *]⟩
          refine Src.more (K := K + 4) ?_ (by omega)
          exact (by (repeat (first | with_reducible exact hS2 | with_reducible refine Src.alloc ?_ _ | with_reducible refine Src.drewN ?_ _ | ((with_reducible refine Src.set ?_ ?_ _); rotate_left; (focus (first | (simp; done) | (simp; omega)))))))
        · have nx2 : (x == 2) = false := by simpa using ex2
          have hS1 := S1.out
          have hB1 := HB1.out
          go_wp2_with fail
          go_at_call 62
          refine (pick_any A n c B g (K + 2) 900 _ (by (repeat (first | with_reducible exact hS1 | with_reducible refine Src.alloc ?_ _ | with_reducible refine Src.drewN ?_ _ | ((with_reducible refine Src.set ?_ ?_ _); rotate_left; (focus (first | (simp; done) | (simp; omega))))))) (by (repeat (first | with_reducible exact hB1 | ((with_reducible refine Byts.alloc ?_ ?_ _); rotate_left; (focus (first | omega | (simp; done) | (simp; omega)))) | with_reducible refine Byts.drewN ?_ _ | ((with_reducible refine Byts.set ?_ ?_ _); rotate_left; (focus (first | omega | (simp; done) | (simp; omega))))))) hBg hn (by omega) (by omega)).mono ?_
          rintro e w3 ⟨v, ⟨t, rfl, t0, t1⟩, rfl, hs3, hq3⟩
          have S3 := Lib.hid (Src.more (L := K + 4) hs3 (by omega))
          have l3 := hs3.lt
          have hg3 : w.grownBy w3 (some g) := by (repeat (first | with_reducible exact World.grownBy.refl _ _ | with_reducible refine only_alloc ?_ _ | with_reducible refine only_drewN ?_ _ | with_reducible refine only_drew ?_ | ((with_reducible refine only_setCell ?_ ?_ _); rotate_left; (focus (first | exact .inl rfl | (left; simp; done) | (right; simp; done) | (right; simp; omega)))) | with_reducible refine World.grownBy.trans ?_ (by assumption) | with_reducible refine only_below ?_ (by assumption)))
          have zz3 := hg3.size
          have HB3 := Lib.hid (HB0.out.only (by omega) hg3 hBg)
          have xR0_3 : w3.cell? ⟨w.heap.size, 0, none⟩ = some (.int .i64 0) := hq3.cell (by simp [go_sem, *]) (by first | omega | (simp; done) | (simp; omega))
          have xR1_3 : w3.cell? ⟨w.heap.size, 1, none⟩ = some (.int .i64 0) := hq3.cell (by simp [go_sem, *]) (by first | omega | (simp; done) | (simp; omega))
          have xR2_3 : w3.cell? ⟨w.heap.size, 2, none⟩ = some (.int .i64 0) := hq3.cell (by simp [go_sem, *]) (by first | omega | (simp; done) | (simp; omega))
          have fR_3 : ∀ o, w3.frozen? ⟨w.heap.size, o, none⟩ = false := frozen_only hq3 (by first | omega | (simp; done) | (simp; omega)) (by first | omega | (simp; done) | (simp; omega)) (fun o => by simp [go_sem, *])
          have yR_3 : w.heap.size < w3.heap.size := by have := hq3.size; (try simp at this); omega
          have xP0_3 : w3.cell? ⟨w.heap.size + 1, 0, none⟩ = some (.int .i64 0) := hq3.cell (by simp [go_sem, *]) (by first | omega | (simp; done) | (simp; omega))
          have xP1_3 : w3.cell? ⟨w.heap.size + 1, 1, none⟩ = some (.int .i64 0) := hq3.cell (by simp [go_sem, *]) (by first | omega | (simp; done) | (simp; omega))
          have fP_3 : ∀ o, w3.frozen? ⟨w.heap.size + 1, o, none⟩ = false := frozen_only hq3 (by first | omega | (simp; done) | (simp; omega)) (by first | omega | (simp; done) | (simp; omega)) (fun o => by simp [go_sem, *])
          have yP_3 : w.heap.size + 1 < w3.heap.size := by have := hq3.size; (try simp at this); omega
          clear hS1 hB1 hs3 hq3
          (try clear xR0_1 xR1_1 xR2_1 fR_1 yR_1)
          (try clear xP0_1 xP1_1 fP_1 yP_1)
          rw [if_neg (by omega)] at t1
          have hS3 := S3.out
          have hB3 := HB3.out
          go_wp2_with fail
          go_at_call 62
          refine (pick_any A n c B g (K + 4) 40 _ (by (repeat (first | with_reducible exact hS3 | with_reducible refine Src.alloc ?_ _ | with_reducible refine Src.drewN ?_ _ | ((with_reducible refine Src.set ?_ ?_ _); rotate_left; (focus (first | (simp; done) | (simp; omega))))))) (by (repeat (first | with_reducible exact hB3 | ((with_reducible refine Byts.alloc ?_ ?_ _); rotate_left; (focus (first | omega | (simp; done) | (simp; omega)))) | with_reducible refine Byts.drewN ?_ _ | ((with_reducible refine Byts.set ?_ ?_ _); rotate_left; (focus (first | omega | (simp; done) | (simp; omega))))))) hBg hn (by omega) (by omega)).mono ?_
          rintro e w4 ⟨v, ⟨r, rfl, r0, r1⟩, rfl, hs4, hq4⟩
          have S4 := Lib.hid (Src.more (L := K + 6) hs4 (by omega))
          have l4 := hs4.lt
          have hg4 : w.grownBy w4 (some g) := by (repeat (first | with_reducible exact World.grownBy.refl _ _ | with_reducible refine only_alloc ?_ _ | with_reducible refine only_drewN ?_ _ | with_reducible refine only_drew ?_ | ((with_reducible refine only_setCell ?_ ?_ _); rotate_left; (focus (first | exact .inl rfl | (left; simp; done) | (right; simp; done) | (right; simp; omega)))) | with_reducible refine World.grownBy.trans ?_ (by assumption) | with_reducible refine only_below ?_ (by assumption)))
          have zz4 := hg4.size
          have HB4 := Lib.hid (HB0.out.only (by omega) hg4 hBg)
          have xR0_4 : w4.cell? ⟨w.heap.size, 0, none⟩ = some (.int .i64 0) := hq4.cell (by simp [go_sem, *]) (by first | omega | (simp; done) | (simp; omega))
          have xR1_4 : w4.cell? ⟨w.heap.size, 1, none⟩ = some (.int .i64 0) := hq4.cell (by simp [go_sem, *]) (by first | omega | (simp; done) | (simp; omega))
          have xR2_4 : w4.cell? ⟨w.heap.size, 2, none⟩ = some (.int .i64 0) := hq4.cell (by simp [go_sem, *]) (by first | omega | (simp; done) | (simp; omega))
          have fR_4 : ∀ o, w4.frozen? ⟨w.heap.size, o, none⟩ = false := frozen_only hq4 (by first | omega | (simp; done) | (simp; omega)) (by first | omega | (simp; done) | (simp; omega)) (fun o => by simp [go_sem, *])
          have yR_4 : w.heap.size < w4.heap.size := by have := hq4.size; (try simp at this); omega
          have xP0_4 : w4.cell? ⟨w.heap.size + 1, 0, none⟩ = some (.int .i64 0) := hq4.cell (by simp [go_sem, *]) (by first | omega | (simp; done) | (simp; omega))
          have xP1_4 : w4.cell? ⟨w.heap.size + 1, 1, none⟩ = some (.int .i64 0) := hq4.cell (by simp [go_sem, *]) (by first | omega | (simp; done) | (simp; omega))
          have fP_4 : ∀ o, w4.frozen? ⟨w.heap.size + 1, o, none⟩ = false := frozen_only hq4 (by first | omega | (simp; done) | (simp; omega)) (by first | omega | (simp; done) | (simp; omega)) (fun o => by simp [go_sem, *])
          have yP_4 : w.heap.size + 1 < w4.heap.size := by have := hq4.size; (try simp at this); omega
          clear hS3 hB3 hs4 hq4
          (try clear xR0_3 xR1_3 xR2_3 fR_3 yR_3)
          (try clear xP0_3 xP1_3 fP_3 yP_3)
          rw [if_neg (by omega)] at r1
          have hS4 := S4.out
          go_wp2_with fail
          go_at_call 71
          refine (l02Make_any (200 + t) (7 + r) _ (by omega) (by omega) (by omega) (by omega) (by omega)).mono ?_
          rintro e w5 ⟨rfl, hb5⟩
          have hS := Src.call (by (repeat (first | with_reducible exact hS4 | with_reducible refine Src.alloc ?_ _ | with_reducible refine Src.drewN ?_ _ | ((with_reducible refine Src.set ?_ ?_ _); rotate_left; (focus (first | (simp; done) | (simp; omega))))))) hb5
          have S5 := Lib.hid hS
          have l5 := hS.lt
          have hg5 : w.grownBy w5 (some g) := by (repeat (first | with_reducible exact World.grownBy.refl _ _ | with_reducible refine only_alloc ?_ _ | with_reducible refine only_drewN ?_ _ | with_reducible refine only_drew ?_ | ((with_reducible refine only_setCell ?_ ?_ _); rotate_left; (focus (first | exact .inl rfl | (left; simp; done) | (right; simp; done) | (right; simp; omega)))) | with_reducible refine World.grownBy.trans ?_ (by assumption) | with_reducible refine only_below ?_ (by assumption)))
          have zz5 := hg5.size
          have HB5 := Lib.hid (HB0.out.only (by omega) hg5 hBg)
          have xR0_5 : w5.cell? ⟨w.heap.size, 0, none⟩ = some (.int .i64 0) := cell_call hb5 (by simp; omega) (by simp [go_sem, *])
          have xR1_5 : w5.cell? ⟨w.heap.size, 1, none⟩ = some (.int .i64 0) := cell_call hb5 (by simp; omega) (by simp [go_sem, *])
          have xR2_5 : w5.cell? ⟨w.heap.size, 2, none⟩ = some (.int .i64 0) := cell_call hb5 (by simp; omega) (by simp [go_sem, *])
          have fR_5 : ∀ o, w5.frozen? ⟨w.heap.size, o, none⟩ = false := fun o => (hb5.frozen (by simp; omega)).trans (by simp [go_sem, *])
          have yR_5 : w.heap.size < w5.heap.size := by have := hb5.size; (try simp at this); omega
          have xP0_5 : w5.cell? ⟨w.heap.size + 1, 0, none⟩ = some (.int .i64 0) := cell_call hb5 (by simp; omega) (by simp [go_sem, *])
          have xP1_5 : w5.cell? ⟨w.heap.size + 1, 1, none⟩ = some (.int .i64 0) := cell_call hb5 (by simp; omega) (by simp [go_sem, *])
          have fP_5 : ∀ o, w5.frozen? ⟨w.heap.size + 1, o, none⟩ = false := fun o => (hb5.frozen (by simp; omega)).trans (by simp [go_sem, *])
          have yP_5 : w.heap.size + 1 < w5.heap.size := by have := hb5.size; (try simp at this); omega
          clear hb5 hS hS4
          (try clear xR0_4 xR1_4 xR2_4 fR_4 yR_4)
          (try clear xP0_4 xP1_4 fP_4 yP_4)
          go_wp2_with fail
          go_meet
          have hS5 := S5.out
          refine ⟨rfl, _, _, ?_, by (repeat (first | with_reducible exact World.grownBy.refl _ _ | with_reducible refine only_alloc ?_ _ | with_reducible refine only_drewN ?_ _ | with_reducible refine only_drew ?_ | ((with_reducible refine only_setCell ?_ ?_ _); rotate_left; (focus (first | exact .inl rfl | (left; simp; done) | (right; simp; done) | (right; simp; omega)))) | with_reducible refine World.grownBy.trans ?_ (by assumption) | with_reducible refine only_below ?_ (by assumption))), by simp [go_sem, *]; rfl, by simp [go_sem, *]; rfl, by simp [go_sem, *], by simp [go_sem, *], by simp [go_sem, *], fun o => by simp [go_sem, *], fun o => by simp [go_sem, *]⟩
          refine Src.more (K := K + 6) ?_ (by omega)
          exact (by (repeat (first | with_reducible exact hS5 | with_reducible refine Src.alloc ?_ _ | with_reducible refine Src.drewN ?_ _ | ((with_reducible refine Src.set ?_ ?_ _); rotate_left; (focus (first | (simp; done) | (simp; omega)))))))
  case rest =>
    obtain ⟨rfl, pa, pb, hS20, hg20, xP0_20, xP1_20, xR0_20, xR1_20, xR2_20, fP_20, fR_20⟩ := hcut
    have S20 := Lib.hid hS20
    have l20 := hS20.lt
    have zz20 := hg20.size
    have HB20 := Lib.hid (HB0.out.only (by omega) hg20 hBg)
    have yP_20 : w.heap.size + 1 < wc.heap.size := World.block_lt_of_cell? wc _ xP0_20
    have yR_20 : w.heap.size < wc.heap.size := by omega
    clear hS20
    have hS20 := S20.out
    have hB20 := HB20.out
    go_wp2_with fail
    go_at_call 62
    refine (pick_any A n c B g (K + 10) 4000 _ (by (repeat (first | with_reducible exact hS20 | with_reducible refine Src.alloc ?_ _ | with_reducible refine Src.drewN ?_ _ | ((with_reducible refine Src.set ?_ ?_ _); rotate_left; (focus (first | (simp; done) | (simp; omega))))))) (by (repeat (first | with_reducible exact hB20 | ((with_reducible refine Byts.alloc ?_ ?_ _); rotate_left; (focus (first | omega | (simp; done) | (simp; omega)))) | with_reducible refine Byts.drewN ?_ _ | ((with_reducible refine Byts.set ?_ ?_ _); rotate_left; (focus (first | omega | (simp; done) | (simp; omega))))))) hBg hn (by omega) (by omega)).mono ?_
    rintro e w21 ⟨v, ⟨e, rfl, e0, e1⟩, rfl, hs21, hq21⟩
    have S21 := Lib.hid (Src.more (L := K + 12) hs21 (by omega))
    have l21 := hs21.lt
    have hg21 : w.grownBy w21 (some g) := by (repeat (first | with_reducible exact World.grownBy.refl _ _ | with_reducible refine only_alloc ?_ _ | with_reducible refine only_drewN ?_ _ | with_reducible refine only_drew ?_ | ((with_reducible refine only_setCell ?_ ?_ _); rotate_left; (focus (first | exact .inl rfl | (left; simp; done) | (right; simp; done) | (right; simp; omega)))) | with_reducible refine World.grownBy.trans ?_ (by assumption) | with_reducible refine only_below ?_ (by assumption)))
    have zz21 := hg21.size
    have HB21 := Lib.hid (HB0.out.only (by omega) hg21 hBg)
    have xR0_21 : w21.cell? ⟨w.heap.size, 0, none⟩ = some (.int .i64 0) := hq21.cell (by simp [go_sem, *]) (by first | omega | (simp; done) | (simp; omega))
    have xR1_21 : w21.cell? ⟨w.heap.size, 1, none⟩ = some (.int .i64 0) := hq21.cell (by simp [go_sem, *]) (by first | omega | (simp; done) | (simp; omega))
    have xR2_21 : w21.cell? ⟨w.heap.size, 2, none⟩ = some (.int .i64 0) := hq21.cell (by simp [go_sem, *]) (by first | omega | (simp; done) | (simp; omega))
    have fR_21 : ∀ o, w21.frozen? ⟨w.heap.size, o, none⟩ = false := frozen_only hq21 (by first | omega | (simp; done) | (simp; omega)) (by first | omega | (simp; done) | (simp; omega)) (fun o => by simp [go_sem, *])
    have yR_21 : w.heap.size < w21.heap.size := by have := hq21.size; (try simp at this); omega
    have xP0_21 : w21.cell? ⟨w.heap.size + 1, 0, none⟩ = some (.int .i64 pa) := hq21.cell (by simp [go_sem, *]) (by first | omega | (simp; done) | (simp; omega))
    have xP1_21 : w21.cell? ⟨w.heap.size + 1, 1, none⟩ = some (.int .i64 pb) := hq21.cell (by simp [go_sem, *]) (by first | omega | (simp; done) | (simp; omega))
    have fP_21 : ∀ o, w21.frozen? ⟨w.heap.size + 1, o, none⟩ = false := frozen_only hq21 (by first | omega | (simp; done) | (simp; omega)) (by first | omega | (simp; done) | (simp; omega)) (fun o => by simp [go_sem, *])
    have yP_21 : w.heap.size + 1 < w21.heap.size := by have := hq21.size; (try simp at this); omega
    clear hS20 hB20 hs21 hq21
    (try clear xR0_20 xR1_20 xR2_20 fR_20 yR_20)
    (try clear xP0_20 xP1_20 fP_20 yP_20)
    rw [if_neg (by omega)] at e1
    have hS21 := S21.out
    have hB21 := HB21.out
    go_wp2_with fail
    go_at_call 62
    refine (pick_any A n c B g (K + 12) 30 _ (by (repeat (first | with_reducible exact hS21 | with_reducible refine Src.alloc ?_ _ | with_reducible refine Src.drewN ?_ _ | ((with_reducible refine Src.set ?_ ?_ _); rotate_left; (focus (first | (simp; done) | (simp; omega))))))) (by (repeat (first | with_reducible exact hB21 | ((with_reducible refine Byts.alloc ?_ ?_ _); rotate_left; (focus (first | omega | (simp; done) | (simp; omega)))) | with_reducible refine Byts.drewN ?_ _ | ((with_reducible refine Byts.set ?_ ?_ _); rotate_left; (focus (first | omega | (simp; done) | (simp; omega))))))) hBg hn (by omega) (by omega)).mono ?_
    rintro e w22 ⟨v, ⟨v, rfl, v0, v1⟩, rfl, hs22, hq22⟩
    have S22 := Lib.hid (Src.more (L := K + 14) hs22 (by omega))
    have l22 := hs22.lt
    have hg22 : w.grownBy w22 (some g) := by (repeat (first | with_reducible exact World.grownBy.refl _ _ | with_reducible refine only_alloc ?_ _ | with_reducible refine only_drewN ?_ _ | with_reducible refine only_drew ?_ | ((with_reducible refine only_setCell ?_ ?_ _); rotate_left; (focus (first | exact .inl rfl | (left; simp; done) | (right; simp; done) | (right; simp; omega)))) | with_reducible refine World.grownBy.trans ?_ (by assumption) | with_reducible refine only_below ?_ (by assumption)))
    have zz22 := hg22.size
    have HB22 := Lib.hid (HB0.out.only (by omega) hg22 hBg)
    have xR0_22 : w22.cell? ⟨w.heap.size, 0, none⟩ = some (.int .i64 0) := hq22.cell (by simp [go_sem, *]) (by first | omega | (simp; done) | (simp; omega))
    have xR1_22 : w22.cell? ⟨w.heap.size, 1, none⟩ = some (.int .i64 0) := hq22.cell (by simp [go_sem, *]) (by first | omega | (simp; done) | (simp; omega))
    have xR2_22 : w22.cell? ⟨w.heap.size, 2, none⟩ = some (.int .i64 0) := hq22.cell (by simp [go_sem, *]) (by first | omega | (simp; done) | (simp; omega))
    have fR_22 : ∀ o, w22.frozen? ⟨w.heap.size, o, none⟩ = false := frozen_only hq22 (by first | omega | (simp; done) | (simp; omega)) (by first | omega | (simp; done) | (simp; omega)) (fun o => by simp [go_sem, *])
    have yR_22 : w.heap.size < w22.heap.size := by have := hq22.size; (try simp at this); omega
    have xP0_22 : w22.cell? ⟨w.heap.size + 1, 0, none⟩ = some (.int .i64 pa) := hq22.cell (by simp [go_sem, *]) (by first | omega | (simp; done) | (simp; omega))
    have xP1_22 : w22.cell? ⟨w.heap.size + 1, 1, none⟩ = some (.int .i64 pb) := hq22.cell (by simp [go_sem, *]) (by first | omega | (simp; done) | (simp; omega))
    have fP_22 : ∀ o, w22.frozen? ⟨w.heap.size + 1, o, none⟩ = false := frozen_only hq22 (by first | omega | (simp; done) | (simp; omega)) (by first | omega | (simp; done) | (simp; omega)) (fun o => by simp [go_sem, *])
    have yP_22 : w.heap.size + 1 < w22.heap.size := by have := hq22.size; (try simp at this); omega
    clear hS21 hB21 hs22 hq22
    (try clear xR0_21 xR1_21 xR2_21 fR_21 yR_21)
    (try clear xP0_21 xP1_21 fP_21 yP_21)
    rw [if_neg (by omega)] at v1
    by_cases ev0 : v = 0
    · subst ev0
      have hS22 := S22.out
      have hB22 := HB22.out
      go_wp2_with fail
      go_at_call 83
      refine (l02Bent_any A n c B g (K + 14) _ (by (repeat (first | with_reducible exact hS22 | with_reducible refine Src.alloc ?_ _ | with_reducible refine Src.drewN ?_ _ | ((with_reducible refine Src.set ?_ ?_ _); rotate_left; (focus (first | (simp; done) | (simp; omega))))))) (by (repeat (first | with_reducible exact hB22 | ((with_reducible refine Byts.alloc ?_ ?_ _); rotate_left; (focus (first | omega | (simp; done) | (simp; omega)))) | with_reducible refine Byts.drewN ?_ _ | ((with_reducible refine Byts.set ?_ ?_ _); rotate_left; (focus (first | omega | (simp; done) | (simp; omega))))))) hBg (by omega) hn (by omega)).mono ?_
      rintro e w23 ⟨v, ⟨a, b, rfl⟩, rfl, hs23, hq23⟩
      have S23 := Lib.hid (Src.more (L := K + 34) hs23 (by omega))
      have l23 := hs23.lt
      have hg23 : w.grownBy w23 (some g) := by (repeat (first | with_reducible exact World.grownBy.refl _ _ | with_reducible refine only_alloc ?_ _ | with_reducible refine only_drewN ?_ _ | with_reducible refine only_drew ?_ | ((with_reducible refine only_setCell ?_ ?_ _); rotate_left; (focus (first | exact .inl rfl | (left; simp; done) | (right; simp; done) | (right; simp; omega)))) | with_reducible refine World.grownBy.trans ?_ (by assumption) | with_reducible refine only_below ?_ (by assumption)))
      have zz23 := hg23.size
      have HB23 := Lib.hid (HB0.out.only (by omega) hg23 hBg)
      have xR0_23 : w23.cell? ⟨w.heap.size, 0, none⟩ = some (.int .i64 0) := hq23.cell (by simp [go_sem, *]) (by first | omega | (simp; done) | (simp; omega))
      have xR1_23 : w23.cell? ⟨w.heap.size, 1, none⟩ = some (.int .i64 0) := hq23.cell (by simp [go_sem, *]) (by first | omega | (simp; done) | (simp; omega))
      have xR2_23 : w23.cell? ⟨w.heap.size, 2, none⟩ = some (.int .i64 0) := hq23.cell (by simp [go_sem, *]) (by first | omega | (simp; done) | (simp; omega))
      have fR_23 : ∀ o, w23.frozen? ⟨w.heap.size, o, none⟩ = false := frozen_only hq23 (by first | omega | (simp; done) | (simp; omega)) (by first | omega | (simp; done) | (simp; omega)) (fun o => by simp [go_sem, *])
      have yR_23 : w.heap.size < w23.heap.size := by have := hq23.size; (try simp at this); omega
      have xP0_23 : w23.cell? ⟨w.heap.size + 1, 0, none⟩ = some (.int .i64 pa) := hq23.cell (by simp [go_sem, *]) (by first | omega | (simp; done) | (simp; omega))
      have xP1_23 : w23.cell? ⟨w.heap.size + 1, 1, none⟩ = some (.int .i64 pb) := hq23.cell (by simp [go_sem, *]) (by first | omega | (simp; done) | (simp; omega))
      have fP_23 : ∀ o, w23.frozen? ⟨w.heap.size + 1, o, none⟩ = false := frozen_only hq23 (by first | omega | (simp; done) | (simp; omega)) (by first | omega | (simp; done) | (simp; omega)) (fun o => by simp [go_sem, *])
      have yP_23 : w.heap.size + 1 < w23.heap.size := by have := hq23.size; (try simp at this); omega
      clear hS22 hB22 hs23 hq23
      (try clear xR0_22 xR1_22 xR2_22 fR_22 yR_22)
      (try clear xP0_22 xP1_22 fP_22 yP_22)
      go_wp2
      refine bodyPost_ret (v := .agg #[.int .i64 (a), .int .i64 (b), .int .i64 (e - 2000)]) ?_ rfl ⟨_, ⟨_, _, _, rfl⟩, rfl, ?_, ?_⟩
      · simp [results, Try.results74, go_sem, *]
      · have hS23 := S23.out
        refine Src.more (K := K + 34) ?_ (by omega)
        exact (by (repeat (first | with_reducible exact hS23 | with_reducible refine Src.alloc ?_ _ | with_reducible refine Src.drewN ?_ _ | ((with_reducible refine Src.set ?_ ?_ _); rotate_left; (focus (first | (simp; done) | (simp; omega)))))))
      · (repeat (first | with_reducible exact World.grownBy.refl _ _ | with_reducible refine only_alloc ?_ _ | with_reducible refine only_drewN ?_ _ | with_reducible refine only_drew ?_ | ((with_reducible refine only_setCell ?_ ?_ _); rotate_left; (focus (first | exact .inl rfl | (left; simp; done) | (right; simp; done) | (right; simp; omega)))) | with_reducible refine World.grownBy.trans ?_ (by assumption) | with_reducible refine only_below ?_ (by assumption)))
    · have nv0 : (v == 0) = false := by simpa using ev0
      by_cases ev1 : v = 1
      · subst ev1
        have hS22 := S22.out
        have hB22 := HB22.out
        go_wp2_with fail
        go_at_call 61
        refine (among_any A _ n c B g 4 4 [1, 2, 1000, 1001] (K + 14) _ (by (repeat (first | with_reducible exact hS22 | with_reducible refine Src.alloc ?_ _ | with_reducible refine Src.drewN ?_ _ | ((with_reducible refine Src.set ?_ ?_ _); rotate_left; (focus (first | (simp; done) | (simp; omega))))))) (by (repeat (first | with_reducible exact hB22 | ((with_reducible refine Byts.alloc ?_ ?_ _); rotate_left; (focus (first | omega | (simp; done) | (simp; omega)))) | with_reducible refine Byts.drewN ?_ _ | ((with_reducible refine Byts.set ?_ ?_ _); rotate_left; (focus (first | omega | (simp; done) | (simp; omega))))))) hBg hn (by omega)
          ⟨rfl, fun _ => ⟨_, 0, rfl, by simp, fun j hj => by
            match j, hj with
            | 0, _ => simp
            | 1, _ => simp
            | 2, _ => simp
            | 3, _ => simp⟩⟩ (by intro ad h; cases h; first | (simp; done) | (simp; omega)) (by omega) (by omega)).mono ?_
        rintro e w24 ⟨v, ⟨y, rfl, hy⟩, rfl, hs24, hq24⟩
        have S24 := Lib.hid (Src.more (L := K + 16) hs24 (by omega))
        have l24 := hs24.lt
        have hg24 : w.grownBy w24 (some g) := by (repeat (first | with_reducible exact World.grownBy.refl _ _ | with_reducible refine only_alloc ?_ _ | with_reducible refine only_drewN ?_ _ | with_reducible refine only_drew ?_ | ((with_reducible refine only_setCell ?_ ?_ _); rotate_left; (focus (first | exact .inl rfl | (left; simp; done) | (right; simp; done) | (right; simp; omega)))) | with_reducible refine World.grownBy.trans ?_ (by assumption) | with_reducible refine only_below ?_ (by assumption)))
        have zz24 := hg24.size
        have HB24 := Lib.hid (HB0.out.only (by omega) hg24 hBg)
        have xR0_24 : w24.cell? ⟨w.heap.size, 0, none⟩ = some (.int .i64 0) := hq24.cell (by simp [go_sem, *]) (by first | omega | (simp; done) | (simp; omega))
        have xR1_24 : w24.cell? ⟨w.heap.size, 1, none⟩ = some (.int .i64 0) := hq24.cell (by simp [go_sem, *]) (by first | omega | (simp; done) | (simp; omega))
        have xR2_24 : w24.cell? ⟨w.heap.size, 2, none⟩ = some (.int .i64 0) := hq24.cell (by simp [go_sem, *]) (by first | omega | (simp; done) | (simp; omega))
        have fR_24 : ∀ o, w24.frozen? ⟨w.heap.size, o, none⟩ = false := frozen_only hq24 (by first | omega | (simp; done) | (simp; omega)) (by first | omega | (simp; done) | (simp; omega)) (fun o => by simp [go_sem, *])
        have yR_24 : w.heap.size < w24.heap.size := by have := hq24.size; (try simp at this); omega
        have xP0_24 : w24.cell? ⟨w.heap.size + 1, 0, none⟩ = some (.int .i64 pa) := hq24.cell (by simp [go_sem, *]) (by first | omega | (simp; done) | (simp; omega))
        have xP1_24 : w24.cell? ⟨w.heap.size + 1, 1, none⟩ = some (.int .i64 pb) := hq24.cell (by simp [go_sem, *]) (by first | omega | (simp; done) | (simp; omega))
        have fP_24 : ∀ o, w24.frozen? ⟨w.heap.size + 1, o, none⟩ = false := frozen_only hq24 (by first | omega | (simp; done) | (simp; omega)) (by first | omega | (simp; done) | (simp; omega)) (fun o => by simp [go_sem, *])
        have yP_24 : w.heap.size + 1 < w24.heap.size := by have := hq24.size; (try simp at this); omega
        clear hS22 hB22 hs24 hq24
        (try clear xR0_22 xR1_22 xR2_22 fR_22 yR_22)
        (try clear xP0_22 xP1_22 fP_22 yP_22)
        clear hy
        go_wp2
        refine bodyPost_ret (v := .agg #[.int .i64 (y), .int .i64 (1), .int .i64 (e - 2000)]) ?_ rfl ⟨_, ⟨_, _, _, rfl⟩, rfl, ?_, ?_⟩
        · simp [results, Try.results74, go_sem, *]
        · have hS24 := S24.out
          refine Src.more (K := K + 16) ?_ (by omega)
          exact (by (repeat (first | with_reducible exact hS24 | with_reducible refine Src.alloc ?_ _ | with_reducible refine Src.drewN ?_ _ | ((with_reducible refine Src.set ?_ ?_ _); rotate_left; (focus (first | (simp; done) | (simp; omega)))))))
        · (repeat (first | with_reducible exact World.grownBy.refl _ _ | with_reducible refine only_alloc ?_ _ | with_reducible refine only_drewN ?_ _ | with_reducible refine only_drew ?_ | ((with_reducible refine only_setCell ?_ ?_ _); rotate_left; (focus (first | exact .inl rfl | (left; simp; done) | (right; simp; done) | (right; simp; omega)))) | with_reducible refine World.grownBy.trans ?_ (by assumption) | with_reducible refine only_below ?_ (by assumption)))
      · have nv1 : (v == 1) = false := by simpa using ev1
        by_cases ev2 : v = 2
        · subst ev2
          have hS22 := S22.out
          have hB22 := HB22.out
          go_wp2_with fail
          go_at_call 61
          refine (among_any A _ n c B g 3 3 [-10000001, 10000000, 10000001] (K + 14) _ (by (repeat (first | with_reducible exact hS22 | with_reducible refine Src.alloc ?_ _ | with_reducible refine Src.drewN ?_ _ | ((with_reducible refine Src.set ?_ ?_ _); rotate_left; (focus (first | (simp; done) | (simp; omega))))))) (by (repeat (first | with_reducible exact hB22 | ((with_reducible refine Byts.alloc ?_ ?_ _); rotate_left; (focus (first | omega | (simp; done) | (simp; omega)))) | with_reducible refine Byts.drewN ?_ _ | ((with_reducible refine Byts.set ?_ ?_ _); rotate_left; (focus (first | omega | (simp; done) | (simp; omega))))))) hBg hn (by omega)
            ⟨rfl, fun _ => ⟨_, 0, rfl, by simp, fun j hj => by
              match j, hj with
              | 0, _ => simp
              | 1, _ => simp
              | 2, _ => simp⟩⟩ (by intro ad h; cases h; first | (simp; done) | (simp; omega)) (by omega) (by omega)).mono ?_
          rintro e w25 ⟨v, ⟨y, rfl, hy⟩, rfl, hs25, hq25⟩
          have S25 := Lib.hid (Src.more (L := K + 16) hs25 (by omega))
          have l25 := hs25.lt
          have hg25 : w.grownBy w25 (some g) := by (repeat (first | with_reducible exact World.grownBy.refl _ _ | with_reducible refine only_alloc ?_ _ | with_reducible refine only_drewN ?_ _ | with_reducible refine only_drew ?_ | ((with_reducible refine only_setCell ?_ ?_ _); rotate_left; (focus (first | exact .inl rfl | (left; simp; done) | (right; simp; done) | (right; simp; omega)))) | with_reducible refine World.grownBy.trans ?_ (by assumption) | with_reducible refine only_below ?_ (by assumption)))
          have zz25 := hg25.size
          have HB25 := Lib.hid (HB0.out.only (by omega) hg25 hBg)
          have xR0_25 : w25.cell? ⟨w.heap.size, 0, none⟩ = some (.int .i64 0) := hq25.cell (by simp [go_sem, *]) (by first | omega | (simp; done) | (simp; omega))
          have xR1_25 : w25.cell? ⟨w.heap.size, 1, none⟩ = some (.int .i64 0) := hq25.cell (by simp [go_sem, *]) (by first | omega | (simp; done) | (simp; omega))
          have xR2_25 : w25.cell? ⟨w.heap.size, 2, none⟩ = some (.int .i64 0) := hq25.cell (by simp [go_sem, *]) (by first | omega | (simp; done) | (simp; omega))
          have fR_25 : ∀ o, w25.frozen? ⟨w.heap.size, o, none⟩ = false := frozen_only hq25 (by first | omega | (simp; done) | (simp; omega)) (by first | omega | (simp; done) | (simp; omega)) (fun o => by simp [go_sem, *])
          have yR_25 : w.heap.size < w25.heap.size := by have := hq25.size; (try simp at this); omega
          have xP0_25 : w25.cell? ⟨w.heap.size + 1, 0, none⟩ = some (.int .i64 pa) := hq25.cell (by simp [go_sem, *]) (by first | omega | (simp; done) | (simp; omega))
          have xP1_25 : w25.cell? ⟨w.heap.size + 1, 1, none⟩ = some (.int .i64 pb) := hq25.cell (by simp [go_sem, *]) (by first | omega | (simp; done) | (simp; omega))
          have fP_25 : ∀ o, w25.frozen? ⟨w.heap.size + 1, o, none⟩ = false := frozen_only hq25 (by first | omega | (simp; done) | (simp; omega)) (by first | omega | (simp; done) | (simp; omega)) (fun o => by simp [go_sem, *])
          have yP_25 : w.heap.size + 1 < w25.heap.size := by have := hq25.size; (try simp at this); omega
          clear hS22 hB22 hs25 hq25
          (try clear xR0_22 xR1_22 xR2_22 fR_22 yR_22)
          (try clear xP0_22 xP1_22 fP_22 yP_22)
          clear hy
          go_wp2
          refine bodyPost_ret (v := .agg #[.int .i64 (pa), .int .i64 (pb), .int .i64 (y)]) ?_ rfl ⟨_, ⟨_, _, _, rfl⟩, rfl, ?_, ?_⟩
          · simp [results, Try.results74, go_sem, *]
          · have hS25 := S25.out
            refine Src.more (K := K + 16) ?_ (by omega)
            exact (by (repeat (first | with_reducible exact hS25 | with_reducible refine Src.alloc ?_ _ | with_reducible refine Src.drewN ?_ _ | ((with_reducible refine Src.set ?_ ?_ _); rotate_left; (focus (first | (simp; done) | (simp; omega)))))))
          · (repeat (first | with_reducible exact World.grownBy.refl _ _ | with_reducible refine only_alloc ?_ _ | with_reducible refine only_drewN ?_ _ | with_reducible refine only_drew ?_ | ((with_reducible refine only_setCell ?_ ?_ _); rotate_left; (focus (first | exact .inl rfl | (left; simp; done) | (right; simp; done) | (right; simp; omega)))) | with_reducible refine World.grownBy.trans ?_ (by assumption) | with_reducible refine only_below ?_ (by assumption)))
        · have nv2 : (v == 2) = false := by simpa using ev2
          go_wp2
          refine bodyPost_ret (v := .agg #[.int .i64 (pa), .int .i64 (pb), .int .i64 (e - 2000)]) ?_ rfl ⟨_, ⟨_, _, _, rfl⟩, rfl, ?_, ?_⟩
          · simp [results, Try.results74, go_sem, *]
          · have hS22 := S22.out
            refine Src.more (K := K + 14) ?_ (by omega)
            exact (by (repeat (first | with_reducible exact hS22 | with_reducible refine Src.alloc ?_ _ | with_reducible refine Src.drewN ?_ _ | ((with_reducible refine Src.set ?_ ?_ _); rotate_left; (focus (first | (simp; done) | (simp; omega)))))))
          · (repeat (first | with_reducible exact World.grownBy.refl _ _ | with_reducible refine only_alloc ?_ _ | with_reducible refine only_drewN ?_ _ | with_reducible refine only_drew ?_ | ((with_reducible refine only_setCell ?_ ?_ _); rotate_left; (focus (first | exact .inl rfl | (left; simp; done) | (right; simp; done) | (right; simp; omega)))) | with_reducible refine World.grownBy.trans ?_ (by assumption) | with_reducible refine only_below ?_ (by assumption)))
end Go.Proofs.Ytanfccdeacohfaa
