/- The draws of days, and of what laws on moon works take. No conditions but that there are at most 4096 bytes. -/
import Derived.Test.YtanfccdeacohfaaDrawMoon2
namespace Go.Proofs.Ytanfccdeacohfaa
open Go.RowKit
set_option linter.unusedVariables false
set_option linter.unusedSimpArgs false
set_option maxHeartbeats 4000000 in
theorem l19DrawDay_any (A : Option Addr) (n c B g : Nat) (K : Int) (w : World) (h : Src w g A n c K) (hb : Byts w B A n) (hBg : B ≤ g) (hBw : B ≤ w.heap.size) (hn : n ≤ 4096) (hK : K ≤ 700000000) :
    Calls Try.prog 75 #[.pointer (some ⟨g, 0, none⟩)] w (Drawn (IntIn (-10000001) 10000001) w g A n c (K + 10)) := by
  have hS0 := h
  have S0 := Lib.hid h
  have HB0 := Lib.hid hb
  have hg0 : w.grownBy w (some g) := World.grownBy.refl _ _
  have l0 := h.lt
  have zz0 : w.heap.size ≤ w.heap.size := Nat.le_refl _
  clear h hb hS0
  go_enter Try.func75, Try.ntmps75
  have hS0 := S0.out
  have hB0 := HB0.out
  go_wp2_with fail
  go_at_call 60
  refine (one_any A n c B g K 20 _ (by (repeat (first | with_reducible exact hS0 | with_reducible refine Src.alloc ?_ _ | with_reducible refine Src.drewN ?_ _ | ((with_reducible refine Src.set ?_ ?_ _); rotate_left; (focus (first | (simp; done) | (simp; omega))))))) (by (repeat (first | with_reducible exact hB0 | ((with_reducible refine Byts.alloc ?_ ?_ _); rotate_left; (focus (first | omega | (simp; done) | (simp; omega)))) | with_reducible refine Byts.drewN ?_ _ | ((with_reducible refine Byts.set ?_ ?_ _); rotate_left; (focus (first | omega | (simp; done) | (simp; omega))))))) hBg hn (by omega) (by omega)).mono ?_
  rintro e w1 ⟨v, ⟨b, rfl⟩, rfl, hs1, hq1⟩
  have S1 := Lib.hid (Src.more (L := K + 2) hs1 (by omega))
  have l1 := hs1.lt
  have hg1 : w.grownBy w1 (some g) := by (repeat (first | with_reducible exact World.grownBy.refl _ _ | with_reducible refine only_alloc ?_ _ | with_reducible refine only_drewN ?_ _ | with_reducible refine only_drew ?_ | ((with_reducible refine only_setCell ?_ ?_ _); rotate_left; (focus (first | exact .inl rfl | (left; simp; done) | (right; simp; done) | (right; simp; omega)))) | with_reducible refine World.grownBy.trans ?_ (by assumption) | with_reducible refine only_below ?_ (by assumption)))
  have zz1 := hg1.size
  have HB1 := Lib.hid (HB0.out.only (by omega) hg1 hBg)
  clear hS0 hB0 hs1 hq1
  cases b
  · skip
    have hS1 := S1.out
    have hB1 := HB1.out
    go_wp2_with fail
    go_at_call 62
    refine (pick_any A n c B g (K + 2) 8000 _ (by (repeat (first | with_reducible exact hS1 | with_reducible refine Src.alloc ?_ _ | with_reducible refine Src.drewN ?_ _ | ((with_reducible refine Src.set ?_ ?_ _); rotate_left; (focus (first | (simp; done) | (simp; omega))))))) (by (repeat (first | with_reducible exact hB1 | ((with_reducible refine Byts.alloc ?_ ?_ _); rotate_left; (focus (first | omega | (simp; done) | (simp; omega)))) | with_reducible refine Byts.drewN ?_ _ | ((with_reducible refine Byts.set ?_ ?_ _); rotate_left; (focus (first | omega | (simp; done) | (simp; omega))))))) hBg hn (by omega) (by omega)).mono ?_
    rintro e w2 ⟨v, ⟨x, rfl, x0, x1⟩, rfl, hs2, hq2⟩
    have S2 := Lib.hid (Src.more (L := K + 4) hs2 (by omega))
    have l2 := hs2.lt
    have hg2 : w.grownBy w2 (some g) := by (repeat (first | with_reducible exact World.grownBy.refl _ _ | with_reducible refine only_alloc ?_ _ | with_reducible refine only_drewN ?_ _ | with_reducible refine only_drew ?_ | ((with_reducible refine only_setCell ?_ ?_ _); rotate_left; (focus (first | exact .inl rfl | (left; simp; done) | (right; simp; done) | (right; simp; omega)))) | with_reducible refine World.grownBy.trans ?_ (by assumption) | with_reducible refine only_below ?_ (by assumption)))
    have zz2 := hg2.size
    have HB2 := Lib.hid (HB0.out.only (by omega) hg2 hBg)
    clear hS1 hB1 hs2 hq2
    rw [if_neg (by omega)] at x1
    go_wp2
    go_ret
    exact ⟨_, ⟨_, rfl, by omega, by omega⟩, rfl, Src.more S2.out (by omega), by (repeat (first | with_reducible exact World.grownBy.refl _ _ | with_reducible refine only_alloc ?_ _ | with_reducible refine only_drewN ?_ _ | with_reducible refine only_drew ?_ | ((with_reducible refine only_setCell ?_ ?_ _); rotate_left; (focus (first | exact .inl rfl | (left; simp; done) | (right; simp; done) | (right; simp; omega)))) | with_reducible refine World.grownBy.trans ?_ (by assumption) | with_reducible refine only_below ?_ (by assumption)))⟩
  · skip
    have hS1 := S1.out
    have hB1 := HB1.out
    go_wp2_with fail
    go_at_call 61
    refine (among_any A _ n c B g 4 4 [-10000001, -10000000, 10000000, 10000001] (K + 2) _ (by (repeat (first | with_reducible exact hS1 | with_reducible refine Src.alloc ?_ _ | with_reducible refine Src.drewN ?_ _ | ((with_reducible refine Src.set ?_ ?_ _); rotate_left; (focus (first | (simp; done) | (simp; omega))))))) (by (repeat (first | with_reducible exact hB1 | ((with_reducible refine Byts.alloc ?_ ?_ _); rotate_left; (focus (first | omega | (simp; done) | (simp; omega)))) | with_reducible refine Byts.drewN ?_ _ | ((with_reducible refine Byts.set ?_ ?_ _); rotate_left; (focus (first | omega | (simp; done) | (simp; omega))))))) hBg hn (by omega)
      ⟨rfl, fun _ => ⟨_, 0, rfl, by simp, fun j hj => by
        match j, hj with
        | 0, _ => simp
        | 1, _ => simp
        | 2, _ => simp
        | 3, _ => simp⟩⟩ (by intro ad h; cases h; first | (simp; done) | (simp; omega)) (by omega) (by omega)).mono ?_
    rintro e w3 ⟨v, ⟨x, rfl, hx⟩, rfl, hs3, hq3⟩
    have S3 := Lib.hid (Src.more (L := K + 4) hs3 (by omega))
    have l3 := hs3.lt
    have hg3 : w.grownBy w3 (some g) := by (repeat (first | with_reducible exact World.grownBy.refl _ _ | with_reducible refine only_alloc ?_ _ | with_reducible refine only_drewN ?_ _ | with_reducible refine only_drew ?_ | ((with_reducible refine only_setCell ?_ ?_ _); rotate_left; (focus (first | exact .inl rfl | (left; simp; done) | (right; simp; done) | (right; simp; omega)))) | with_reducible refine World.grownBy.trans ?_ (by assumption) | with_reducible refine only_below ?_ (by assumption)))
    have zz3 := hg3.size
    have HB3 := Lib.hid (HB0.out.only (by omega) hg3 hBg)
    clear hS1 hB1 hs3 hq3
    have xr : -10000001 ≤ x ∧ x ≤ 10000001 := by simp at hx; omega
    clear hx
    go_wp2
    go_ret
    exact ⟨_, ⟨_, rfl, by omega, by omega⟩, rfl, Src.more S3.out (by omega), by (repeat (first | with_reducible exact World.grownBy.refl _ _ | with_reducible refine only_alloc ?_ _ | with_reducible refine only_drewN ?_ _ | with_reducible refine only_drew ?_ | ((with_reducible refine only_setCell ?_ ?_ _); rotate_left; (focus (first | exact .inl rfl | (left; simp; done) | (right; simp; done) | (right; simp; omega)))) | with_reducible refine World.grownBy.trans ?_ (by assumption) | with_reducible refine only_below ?_ (by assumption)))⟩
set_option maxHeartbeats 8000000 in
theorem DrawNewMoons_any (A : Option Addr) (n c : Nat) (w : World) (hb : Byts w w.heap.size A n) (hn : n ≤ 4096) :
    Calls Try.prog 40 #[.slice A n c] w fun e w' => (∃ a b z x y : Int, e = .returned (.tuple #[.agg #[.int .i64 a, .int .i64 b, .int .i64 z], .int .i64 x, .int .i64 y]) ∧ -20000000 ≤ x ∧ x ≤ 20000000 ∧ -20000000 ≤ y ∧ y ≤ 20000000) ∧ Below w.heap.size w w' := by
  have HB0 := Lib.hid hb
  clear hb
  go_enter Try.func40, Try.ntmps40
  go_wp2_with fail
  go_at_call 59
  refine (l00From_any A n c _).mono ?_
  rintro e w1 ⟨rfl, hs1, hb1⟩
  have xR0_1 : w1.cell? ⟨w.heap.size, 0, none⟩ = some (.int .i64 0) := cell_call hb1 (by simp; try omega) (by simp [go_sem])
  have xR1_1 : w1.cell? ⟨w.heap.size, 1, none⟩ = some (.int .i64 0) := cell_call hb1 (by simp; try omega) (by simp [go_sem])
  have xR2_1 : w1.cell? ⟨w.heap.size, 2, none⟩ = some (.int .i64 0) := cell_call hb1 (by simp; try omega) (by simp [go_sem])
  have fR_1 : ∀ o, w1.frozen? ⟨w.heap.size, o, none⟩ = false := fun o => (hb1.frozen (by simp; try omega)).trans (by simp [go_sem])
  have yR_1 : w.heap.size < w1.heap.size := by have := hb1.size; (try simp at this); omega
  have S1 : Hid (Src w1 (w.heap.size + 1) A n c 0) := Lib.hid (by simpa using hs1)
  have l1 : w.heap.size + 1 < w1.heap.size := S1.out.lt
  have hBel1 : Below w.heap.size w w1 := by (repeat (first | with_reducible exact Below.refl _ _ | with_reducible refine below_alloc ?_ _ | with_reducible refine below_drewN ?_ _ | with_reducible refine Below.drew ?_ | ((with_reducible refine below_set ?_ ?_ _); rotate_left; (focus (first | (simp; done) | (simp; omega) | omega))) | with_reducible refine below_call ?_ (by assumption)))
  have HB1 := Lib.hid (HB0.out.below hBel1)
  have zz1 := hBel1.size
  have hg1 : w.grownBy w1 (some (w.heap.size + 1)) := only_of_below hBel1
  have hlo0 : w.heap.size < w.heap.size + 1 := by omega
  have hBg : w.heap.size ≤ w.heap.size + 1 := by omega
  have hBw : w.heap.size ≤ w.heap.size := Nat.le_refl _
  clear hs1 hb1 hBel1
  go_wp2_with fail
  generalize w.heap.size + 1 = g at *
  have hS1 := S1.out
  have hB1 := HB1.out
  go_wp2_with fail
  go_at_call 74
  refine (l19Draw_any A n c w.heap.size g 0 _ (by (repeat (first | with_reducible exact hS1 | with_reducible refine Src.alloc ?_ _ | with_reducible refine Src.drewN ?_ _ | ((with_reducible refine Src.set ?_ ?_ _); rotate_left; (focus (first | (simp; done) | (simp; omega))))))) (by (repeat (first | with_reducible exact hB1 | ((with_reducible refine Byts.alloc ?_ ?_ _); rotate_left; (focus (first | omega | (simp; done) | (simp; omega)))) | with_reducible refine Byts.drewN ?_ _ | ((with_reducible refine Byts.set ?_ ?_ _); rotate_left; (focus (first | omega | (simp; done) | (simp; omega))))))) hBg (by omega) hn (by omega)).mono ?_
  rintro e w2 ⟨v, ⟨a, b, z, rfl⟩, rfl, hs2, hq2⟩
  have S2 := Lib.hid (Src.more (L := 0 + 60) hs2 (by omega))
  have l2 := hs2.lt
  have hg2 : w.grownBy w2 (some g) := by (repeat (first | with_reducible exact World.grownBy.refl _ _ | with_reducible refine only_alloc ?_ _ | with_reducible refine only_drewN ?_ _ | with_reducible refine only_drew ?_ | ((with_reducible refine only_setCell ?_ ?_ _); rotate_left; (focus (first | exact .inl rfl | (left; simp; done) | (right; simp; done) | (right; simp; omega)))) | with_reducible refine World.grownBy.trans ?_ (by assumption) | with_reducible refine only_below ?_ (by assumption)))
  have zz2 := hg2.size
  have HB2 := Lib.hid (HB0.out.only (by omega) hg2 hBg)
  have xR0_2 : w2.cell? ⟨w.heap.size, 0, none⟩ = some (.int .i64 0) := hq2.cell (by simp [go_sem, *]) (by first | omega | (simp; done) | (simp; omega))
  have xR1_2 : w2.cell? ⟨w.heap.size, 1, none⟩ = some (.int .i64 0) := hq2.cell (by simp [go_sem, *]) (by first | omega | (simp; done) | (simp; omega))
  have xR2_2 : w2.cell? ⟨w.heap.size, 2, none⟩ = some (.int .i64 0) := hq2.cell (by simp [go_sem, *]) (by first | omega | (simp; done) | (simp; omega))
  have fR_2 : ∀ o, w2.frozen? ⟨w.heap.size, o, none⟩ = false := frozen_only hq2 (by first | omega | (simp; done) | (simp; omega)) (by first | omega | (simp; done) | (simp; omega)) (fun o => by simp [go_sem, *])
  have yR_2 : w.heap.size < w2.heap.size := by have := hq2.size; (try simp at this); omega
  clear hS1 hB1 hs2 hq2
  (try clear xR0_1 xR1_1 xR2_1 fR_1 yR_1)
  have dRP : w.heap.size ≠ w2.heap.size := by omega
  have dPR : w2.heap.size ≠ w.heap.size := by omega
  have hS2 := S2.out
  have hB2 := HB2.out
  go_wp2_with fail
  go_at_call 75
  refine (l19DrawDay_any A n c w.heap.size g (0 + 60) _ (by (repeat (first | with_reducible exact hS2 | with_reducible refine Src.alloc ?_ _ | with_reducible refine Src.drewN ?_ _ | ((with_reducible refine Src.set ?_ ?_ _); rotate_left; (focus (first | (simp; done) | (simp; omega))))))) (by (repeat (first | with_reducible exact hB2 | ((with_reducible refine Byts.alloc ?_ ?_ _); rotate_left; (focus (first | omega | (simp; done) | (simp; omega)))) | with_reducible refine Byts.drewN ?_ _ | ((with_reducible refine Byts.set ?_ ?_ _); rotate_left; (focus (first | omega | (simp; done) | (simp; omega))))))) hBg (by first | omega | (simp; omega)) hn (by omega)).mono ?_
  rintro e w3 ⟨v, ⟨x, rfl, x0, x1⟩, rfl, hs3, hq3⟩
  have S3 := Lib.hid (Src.more (L := 0 + 70) hs3 (by omega))
  have l3 := hs3.lt
  have hg3 : w.grownBy w3 (some g) := by (repeat (first | with_reducible exact World.grownBy.refl _ _ | with_reducible refine only_alloc ?_ _ | with_reducible refine only_drewN ?_ _ | with_reducible refine only_drew ?_ | ((with_reducible refine only_setCell ?_ ?_ _); rotate_left; (focus (first | exact .inl rfl | (left; simp; done) | (right; simp; done) | (right; simp; omega)))) | with_reducible refine World.grownBy.trans ?_ (by assumption) | with_reducible refine only_below ?_ (by assumption)))
  have zz3 := hg3.size
  have HB3 := Lib.hid (HB0.out.only (by omega) hg3 hBg)
  have xR0_3 : w3.cell? ⟨w.heap.size, 0, none⟩ = some (.int .i64 0) := hq3.cell (by simp [go_sem, *]) (by first | omega | (simp; done) | (simp; omega))
  have xR1_3 : w3.cell? ⟨w.heap.size, 1, none⟩ = some (.int .i64 0) := hq3.cell (by simp [go_sem, *]) (by first | omega | (simp; done) | (simp; omega))
  have xR2_3 : w3.cell? ⟨w.heap.size, 2, none⟩ = some (.int .i64 0) := hq3.cell (by simp [go_sem, *]) (by first | omega | (simp; done) | (simp; omega))
  have fR_3 : ∀ o, w3.frozen? ⟨w.heap.size, o, none⟩ = false := frozen_only hq3 (by first | omega | (simp; done) | (simp; omega)) (by first | omega | (simp; done) | (simp; omega)) (fun o => by simp [go_sem, *])
  have yR_3 : w.heap.size < w3.heap.size := by have := hq3.size; (try simp at this); omega
  have xP0_3 : w3.cell? ⟨w2.heap.size, 0, none⟩ = some (.int .i64 a) := hq3.cell (by simp [go_sem, *]) (by first | omega | (simp; done) | (simp; omega))
  have xP1_3 : w3.cell? ⟨w2.heap.size, 1, none⟩ = some (.int .i64 b) := hq3.cell (by simp [go_sem, *]) (by first | omega | (simp; done) | (simp; omega))
  have xP2_3 : w3.cell? ⟨w2.heap.size, 2, none⟩ = some (.int .i64 z) := hq3.cell (by simp [go_sem, *]) (by first | omega | (simp; done) | (simp; omega))
  have fP_3 : ∀ o, w3.frozen? ⟨w2.heap.size, o, none⟩ = false := frozen_only hq3 (by first | omega | (simp; done) | (simp; omega)) (by first | omega | (simp; done) | (simp; omega)) (fun o => by simp [go_sem, *])
  have yP_3 : w2.heap.size < w3.heap.size := by have := hq3.size; (try simp at this); omega
  clear hS2 hB2 hs3 hq3
  (try clear xR0_2 xR1_2 xR2_2 fR_2 yR_2)
  (try clear xP0_2 xP1_2 xP2_2 fP_2 yP_2)
  have hS3 := S3.out
  have hB3 := HB3.out
  go_wp2_with fail
  go_at_call 62
  refine (pick_any A n c w.heap.size g (0 + 70) 200 _ (by (repeat (first | with_reducible exact hS3 | with_reducible refine Src.alloc ?_ _ | with_reducible refine Src.drewN ?_ _ | ((with_reducible refine Src.set ?_ ?_ _); rotate_left; (focus (first | (simp; done) | (simp; omega))))))) (by (repeat (first | with_reducible exact hB3 | ((with_reducible refine Byts.alloc ?_ ?_ _); rotate_left; (focus (first | omega | (simp; done) | (simp; omega)))) | with_reducible refine Byts.drewN ?_ _ | ((with_reducible refine Byts.set ?_ ?_ _); rotate_left; (focus (first | omega | (simp; done) | (simp; omega))))))) hBg hn (by omega) (by omega)).mono ?_
  rintro e w4 ⟨v, ⟨y, rfl, y0, y1⟩, rfl, hs4, hq4⟩
  have S4 := Lib.hid (Src.more (L := 0 + 72) hs4 (by omega))
  have l4 := hs4.lt
  have hg4 : w.grownBy w4 (some g) := by (repeat (first | with_reducible exact World.grownBy.refl _ _ | with_reducible refine only_alloc ?_ _ | with_reducible refine only_drewN ?_ _ | with_reducible refine only_drew ?_ | ((with_reducible refine only_setCell ?_ ?_ _); rotate_left; (focus (first | exact .inl rfl | (left; simp; done) | (right; simp; done) | (right; simp; omega)))) | with_reducible refine World.grownBy.trans ?_ (by assumption) | with_reducible refine only_below ?_ (by assumption)))
  have zz4 := hg4.size
  have HB4 := Lib.hid (HB0.out.only (by omega) hg4 hBg)
  have xR0_4 : w4.cell? ⟨w.heap.size, 0, none⟩ = some (.int .i64 0) := hq4.cell (by simp [go_sem, *]) (by first | omega | (simp; done) | (simp; omega))
  have xR1_4 : w4.cell? ⟨w.heap.size, 1, none⟩ = some (.int .i64 0) := hq4.cell (by simp [go_sem, *]) (by first | omega | (simp; done) | (simp; omega))
  have xR2_4 : w4.cell? ⟨w.heap.size, 2, none⟩ = some (.int .i64 0) := hq4.cell (by simp [go_sem, *]) (by first | omega | (simp; done) | (simp; omega))
  have fR_4 : ∀ o, w4.frozen? ⟨w.heap.size, o, none⟩ = false := frozen_only hq4 (by first | omega | (simp; done) | (simp; omega)) (by first | omega | (simp; done) | (simp; omega)) (fun o => by simp [go_sem, *])
  have yR_4 : w.heap.size < w4.heap.size := by have := hq4.size; (try simp at this); omega
  have xP0_4 : w4.cell? ⟨w2.heap.size, 0, none⟩ = some (.int .i64 a) := hq4.cell (by simp [go_sem, *]) (by first | omega | (simp; done) | (simp; omega))
  have xP1_4 : w4.cell? ⟨w2.heap.size, 1, none⟩ = some (.int .i64 b) := hq4.cell (by simp [go_sem, *]) (by first | omega | (simp; done) | (simp; omega))
  have xP2_4 : w4.cell? ⟨w2.heap.size, 2, none⟩ = some (.int .i64 z) := hq4.cell (by simp [go_sem, *]) (by first | omega | (simp; done) | (simp; omega))
  have fP_4 : ∀ o, w4.frozen? ⟨w2.heap.size, o, none⟩ = false := frozen_only hq4 (by first | omega | (simp; done) | (simp; omega)) (by first | omega | (simp; done) | (simp; omega)) (fun o => by simp [go_sem, *])
  have yP_4 : w2.heap.size < w4.heap.size := by have := hq4.size; (try simp at this); omega
  clear hS3 hB3 hs4 hq4
  (try clear xR0_3 xR1_3 xR2_3 fR_3 yR_3)
  (try clear xP0_3 xP1_3 xP2_3 fP_3 yP_3)
  rw [if_neg (by omega)] at y1
  have hS4 := S4.out
  have hB4 := HB4.out
  go_wp2_with fail
  go_at_call 60
  refine (one_any A n c w.heap.size g (0 + 72) 16 _ (by (repeat (first | with_reducible exact hS4 | with_reducible refine Src.alloc ?_ _ | with_reducible refine Src.drewN ?_ _ | ((with_reducible refine Src.set ?_ ?_ _); rotate_left; (focus (first | (simp; done) | (simp; omega))))))) (by (repeat (first | with_reducible exact hB4 | ((with_reducible refine Byts.alloc ?_ ?_ _); rotate_left; (focus (first | omega | (simp; done) | (simp; omega)))) | with_reducible refine Byts.drewN ?_ _ | ((with_reducible refine Byts.set ?_ ?_ _); rotate_left; (focus (first | omega | (simp; done) | (simp; omega))))))) hBg hn (by omega) (by omega)).mono ?_
  rintro e w5 ⟨v, ⟨u, rfl⟩, rfl, hs5, hq5⟩
  have S5 := Lib.hid (Src.more (L := 0 + 74) hs5 (by omega))
  have l5 := hs5.lt
  have hg5 : w.grownBy w5 (some g) := by (repeat (first | with_reducible exact World.grownBy.refl _ _ | with_reducible refine only_alloc ?_ _ | with_reducible refine only_drewN ?_ _ | with_reducible refine only_drew ?_ | ((with_reducible refine only_setCell ?_ ?_ _); rotate_left; (focus (first | exact .inl rfl | (left; simp; done) | (right; simp; done) | (right; simp; omega)))) | with_reducible refine World.grownBy.trans ?_ (by assumption) | with_reducible refine only_below ?_ (by assumption)))
  have zz5 := hg5.size
  have HB5 := Lib.hid (HB0.out.only (by omega) hg5 hBg)
  have xR0_5 : w5.cell? ⟨w.heap.size, 0, none⟩ = some (.int .i64 0) := hq5.cell (by simp [go_sem, *]) (by first | omega | (simp; done) | (simp; omega))
  have xR1_5 : w5.cell? ⟨w.heap.size, 1, none⟩ = some (.int .i64 0) := hq5.cell (by simp [go_sem, *]) (by first | omega | (simp; done) | (simp; omega))
  have xR2_5 : w5.cell? ⟨w.heap.size, 2, none⟩ = some (.int .i64 0) := hq5.cell (by simp [go_sem, *]) (by first | omega | (simp; done) | (simp; omega))
  have fR_5 : ∀ o, w5.frozen? ⟨w.heap.size, o, none⟩ = false := frozen_only hq5 (by first | omega | (simp; done) | (simp; omega)) (by first | omega | (simp; done) | (simp; omega)) (fun o => by simp [go_sem, *])
  have yR_5 : w.heap.size < w5.heap.size := by have := hq5.size; (try simp at this); omega
  have xP0_5 : w5.cell? ⟨w2.heap.size, 0, none⟩ = some (.int .i64 a) := hq5.cell (by simp [go_sem, *]) (by first | omega | (simp; done) | (simp; omega))
  have xP1_5 : w5.cell? ⟨w2.heap.size, 1, none⟩ = some (.int .i64 b) := hq5.cell (by simp [go_sem, *]) (by first | omega | (simp; done) | (simp; omega))
  have xP2_5 : w5.cell? ⟨w2.heap.size, 2, none⟩ = some (.int .i64 z) := hq5.cell (by simp [go_sem, *]) (by first | omega | (simp; done) | (simp; omega))
  have fP_5 : ∀ o, w5.frozen? ⟨w2.heap.size, o, none⟩ = false := frozen_only hq5 (by first | omega | (simp; done) | (simp; omega)) (by first | omega | (simp; done) | (simp; omega)) (fun o => by simp [go_sem, *])
  have yP_5 : w2.heap.size < w5.heap.size := by have := hq5.size; (try simp at this); omega
  clear hS4 hB4 hs5 hq5
  (try clear xR0_4 xR1_4 xR2_4 fR_4 yR_4)
  (try clear xP0_4 xP1_4 xP2_4 fP_4 yP_4)
  cases u
  · skip
    have hBk : Below w.heap.size w w5 := below_only (Below.refl _ _) hg5 (Nat.le_refl _) hBg
    go_wp2
    refine bodyPost_ret (v := .tuple #[.agg #[.int .i64 a, .int .i64 b, .int .i64 z], .int .i64 x, .int .i64 (x + y)]) ?_ rfl ⟨⟨a, b, z, x, _, rfl, by omega, by omega, by omega, by omega⟩, ?_⟩
    · simp [results, Try.results40, go_sem, *]
    · (repeat (first | with_reducible exact hBk | with_reducible refine below_alloc ?_ _ | with_reducible refine below_drewN ?_ _ | with_reducible refine Below.drew ?_ | ((with_reducible refine below_set ?_ ?_ _); rotate_left; (focus (first | (simp; done) | (simp; omega) | omega)))))
  · skip
    have hS5 := S5.out
    have hB5 := HB5.out
    go_wp2_with fail
    go_at_call 61
    refine (among_any A _ n c w.heap.size g 4 4 [-1, 0, 1000, 1001] (0 + 74) _ (by (repeat (first | with_reducible exact hS5 | with_reducible refine Src.alloc ?_ _ | with_reducible refine Src.drewN ?_ _ | ((with_reducible refine Src.set ?_ ?_ _); rotate_left; (focus (first | (simp; done) | (simp; omega))))))) (by (repeat (first | with_reducible exact hB5 | ((with_reducible refine Byts.alloc ?_ ?_ _); rotate_left; (focus (first | omega | (simp; done) | (simp; omega)))) | with_reducible refine Byts.drewN ?_ _ | ((with_reducible refine Byts.set ?_ ?_ _); rotate_left; (focus (first | omega | (simp; done) | (simp; omega))))))) hBg hn (by omega)
      ⟨rfl, fun _ => ⟨_, 0, rfl, by simp, fun j hj => by
        match j, hj with
        | 0, _ => simp
        | 1, _ => simp
        | 2, _ => simp
        | 3, _ => simp⟩⟩ (by intro ad h; cases h; first | (simp; done) | (simp; omega)) (by omega) (by omega)).mono ?_
    rintro e w6 ⟨v, ⟨v, rfl, hv⟩, rfl, hs6, hq6⟩
    have S6 := Lib.hid (Src.more (L := 0 + 76) hs6 (by omega))
    have l6 := hs6.lt
    have hg6 : w.grownBy w6 (some g) := by (repeat (first | with_reducible exact World.grownBy.refl _ _ | with_reducible refine only_alloc ?_ _ | with_reducible refine only_drewN ?_ _ | with_reducible refine only_drew ?_ | ((with_reducible refine only_setCell ?_ ?_ _); rotate_left; (focus (first | exact .inl rfl | (left; simp; done) | (right; simp; done) | (right; simp; omega)))) | with_reducible refine World.grownBy.trans ?_ (by assumption) | with_reducible refine only_below ?_ (by assumption)))
    have zz6 := hg6.size
    have HB6 := Lib.hid (HB0.out.only (by omega) hg6 hBg)
    have xR0_6 : w6.cell? ⟨w.heap.size, 0, none⟩ = some (.int .i64 0) := hq6.cell (by simp [go_sem, *]) (by first | omega | (simp; done) | (simp; omega))
    have xR1_6 : w6.cell? ⟨w.heap.size, 1, none⟩ = some (.int .i64 0) := hq6.cell (by simp [go_sem, *]) (by first | omega | (simp; done) | (simp; omega))
    have xR2_6 : w6.cell? ⟨w.heap.size, 2, none⟩ = some (.int .i64 0) := hq6.cell (by simp [go_sem, *]) (by first | omega | (simp; done) | (simp; omega))
    have fR_6 : ∀ o, w6.frozen? ⟨w.heap.size, o, none⟩ = false := frozen_only hq6 (by first | omega | (simp; done) | (simp; omega)) (by first | omega | (simp; done) | (simp; omega)) (fun o => by simp [go_sem, *])
    have yR_6 : w.heap.size < w6.heap.size := by have := hq6.size; (try simp at this); omega
    have xP0_6 : w6.cell? ⟨w2.heap.size, 0, none⟩ = some (.int .i64 a) := hq6.cell (by simp [go_sem, *]) (by first | omega | (simp; done) | (simp; omega))
    have xP1_6 : w6.cell? ⟨w2.heap.size, 1, none⟩ = some (.int .i64 b) := hq6.cell (by simp [go_sem, *]) (by first | omega | (simp; done) | (simp; omega))
    have xP2_6 : w6.cell? ⟨w2.heap.size, 2, none⟩ = some (.int .i64 z) := hq6.cell (by simp [go_sem, *]) (by first | omega | (simp; done) | (simp; omega))
    have fP_6 : ∀ o, w6.frozen? ⟨w2.heap.size, o, none⟩ = false := frozen_only hq6 (by first | omega | (simp; done) | (simp; omega)) (by first | omega | (simp; done) | (simp; omega)) (fun o => by simp [go_sem, *])
    have yP_6 : w2.heap.size < w6.heap.size := by have := hq6.size; (try simp at this); omega
    clear hS5 hB5 hs6 hq6
    (try clear xR0_5 xR1_5 xR2_5 fR_5 yR_5)
    (try clear xP0_5 xP1_5 xP2_5 fP_5 yP_5)
    have vr : -1 ≤ v ∧ v ≤ 1001 := by simp at hv; omega
    clear hv
    have hBk : Below w.heap.size w w6 := below_only (Below.refl _ _) hg6 (Nat.le_refl _) hBg
    go_wp2
    refine bodyPost_ret (v := .tuple #[.agg #[.int .i64 a, .int .i64 b, .int .i64 z], .int .i64 x, .int .i64 (x + v)]) ?_ rfl ⟨⟨a, b, z, x, _, rfl, by omega, by omega, by omega, by omega⟩, ?_⟩
    · simp [results, Try.results40, go_sem, *]
    · (repeat (first | with_reducible exact hBk | with_reducible refine below_alloc ?_ _ | with_reducible refine below_drewN ?_ _ | with_reducible refine Below.drew ?_ | ((with_reducible refine below_set ?_ ?_ _); rotate_left; (focus (first | (simp; done) | (simp; omega) | omega)))))
end Go.Proofs.Ytanfccdeacohfaa
