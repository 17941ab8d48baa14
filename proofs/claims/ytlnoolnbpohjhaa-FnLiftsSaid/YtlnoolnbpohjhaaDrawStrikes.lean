/- The draws of wheels, notches and numbers of strikes. No conditions but that there are at most 4096 bytes. -/
import Derived.Test.YtlnoolnbpohjhaaDrawBent
namespace Go.Proofs.Ytlnoolnbpohjhaa
open Go.RowKit
set_option linter.unusedVariables false
set_option linter.unusedSimpArgs false
set_option maxHeartbeats 8000000 in
theorem DrawStrikeMany_any (A : Option Addr) (n c : Nat) (w : World) (hb : Byts w w.heap.size A n) (hn : n ≤ 4096) :
    Calls Try.prog 16 #[.slice A n c] w fun e w' => (∃ (L : Option Addr) (m d : Nat) (zs : List Int) (x y : Int), e = .returned (.tuple #[.agg #[.slice L m d], .int .i64 x, .int .i64 y]) ∧ m ≤ 100 ∧ -1 ≤ x ∧ x ≤ 100 ∧ -1 ≤ y ∧ y ≤ 501 ∧ Own w' w.heap.size L m d zs) ∧ Below w.heap.size w w' := by
  have HB0 := Lib.hid hb
  clear hb
  go_enter Try.func16, Try.ntmps16
  go_wp2_with fail
  go_at_call 26
  refine (l00From_any A n c _).mono ?_
  rintro e w1 ⟨rfl, hs1, hb1⟩
  have xR0_1 : w1.cell? ⟨w.heap.size, 0, none⟩ = some (.slice none 0 0) := cell_call hb1 (by simp; try omega) (by simp [go_sem])
  have fR_1 : ∀ o, w1.frozen? ⟨w.heap.size, o, none⟩ = false := fun o => (hb1.frozen (by simp; try omega)).trans (by simp [go_sem])
  have yR_1 : w.heap.size < w1.heap.size := by have := hb1.size; (try simp at this); omega
  have S1 : Hid (Src w1 (w.heap.size + 1) A n c 0) := Lib.hid (by simpa using hs1)
  have l1 : w.heap.size + 1 < w1.heap.size := S1.out.lt
  have hBel1 : Below w.heap.size w w1 := by (repeat (first | with_reducible exact Below.refl _ _ | with_reducible refine below_alloc ?_ _ | with_reducible refine below_drewN ?_ _ | with_reducible refine Below.drew ?_ | ((with_reducible refine below_set ?_ ?_ _); rotate_left; (focus (first | (simp; done) | (simp; omega) | omega))) | with_reducible refine below_call ?_ (by assumption)))
  have HB1 := Lib.hid (HB0.out.below hBel1)
  have zz1 := hBel1.size
  have hg1 : w.grownBy w1 (some (w.heap.size + 1)) := only_of_below hBel1
  have hlo0 : w.heap.size < w.heap.size + 1 := by omega
  have hBg : w.heap.size ≤ w.heap.size + 1 := by omega
  have hBw : w.heap.size ≤ w.heap.size := Nat.le_refl _
  clear hs1 hb1 hBel1
  go_wp2_with fail
  generalize w.heap.size + 1 = g at *
  have hS1 := S1.out
  have hB1 := HB1.out
  go_wp2_with fail
  go_at_call 27
  refine (l20Bent_any A n c w.heap.size g 0 _ hS1 hB1 hBg (by omega) hn (by omega)).mono ?_
  rintro e w2 ⟨L, m, d, zs, rfl, ml, m0, ho2, hs2, hq2⟩
  have S2 := Lib.hid (Src.more (L := 0 + 80) hs2 (by omega))
  have l2 := hs2.lt
  have hg2 : w.grownBy w2 (some g) := by (repeat (first | with_reducible exact World.grownBy.refl _ _ | with_reducible refine only_alloc ?_ _ | with_reducible refine only_drewN ?_ _ | with_reducible refine only_drew ?_ | ((with_reducible refine only_setCell ?_ ?_ _); rotate_left; (focus (first | exact .inl rfl | (left; simp; done) | (right; simp; done) | (right; simp; omega)))) | with_reducible refine World.grownBy.trans ?_ (by assumption) | with_reducible refine only_below ?_ (by assumption)))
  have zz2 := hg2.size
  have zc2 := hq2.size
  have HB2 := Lib.hid (HB0.out.only (by omega) hg2 hBg)
  have xR0_2 : w2.cell? ⟨w.heap.size, 0, none⟩ = some (.slice none 0 0) := hq2.cell (by simp [go_sem, *]) (by simp; omega)
  have fR_2 : ∀ o, w2.frozen? ⟨w.heap.size, o, none⟩ = false := frozen_only hq2 (by omega) (by omega) (fun o => by simp [go_sem, *])
  have yR_2 : w.heap.size < w2.heap.size := by omega
  have O2 : Hid (Own w2 (g + 1) L m d zs) := Lib.hid (ho2.low (by omega))
  have hc2 : Hid (w2.grownBy w2 (some g)) := Lib.hid (World.grownBy.refl _ _)
  clear hS1 hB1 hs2 hq2 ho2 xR0_1 fR_1 yR_1
  have dRP : w.heap.size ≠ w2.heap.size := by omega
  have dPR : w2.heap.size ≠ w.heap.size := by omega
  have hS2 := S2.out
  have hB2 := HB2.out
  go_wp2_with fail
  go_at_call 28
  refine (l20At_any A L n c w.heap.size g m d (0 + 80) _ (by (repeat (first | with_reducible exact hS2 | with_reducible refine Src.alloc ?_ _ | with_reducible refine Src.drewN ?_ _ | ((with_reducible refine Src.set ?_ ?_ _); rotate_left; (focus (first | (simp; done) | (simp; omega))))))) (by (repeat (first | with_reducible exact hB2 | ((with_reducible refine Byts.alloc ?_ ?_ _); rotate_left; (focus (first | omega | (simp; done) | (simp; omega)))) | with_reducible refine Byts.drewN ?_ _ | ((with_reducible refine Byts.set ?_ ?_ _); rotate_left; (focus (first | omega | (simp; done) | (simp; omega))))))) hBg (by first | omega | (simp; omega)) hn (by omega) (by omega)).mono ?_
  rintro e w3 ⟨v, ⟨x, rfl, x0, x1⟩, rfl, hs3, hq3⟩
  have hc3 : Hid (w2.grownBy w3 (some g)) := Lib.hid (World.grownBy.trans (by have hcp := hc2.out; (repeat (first | with_reducible exact hcp | with_reducible refine only_alloc ?_ _ | with_reducible refine only_drewN ?_ _))) hq3)
  have S3 := Lib.hid (Src.more (L := 0 + 84) hs3 (by omega))
  have l3 := hs3.lt
  have hg3 : w.grownBy w3 (some g) := by (repeat (first | with_reducible exact World.grownBy.refl _ _ | with_reducible refine only_alloc ?_ _ | with_reducible refine only_drewN ?_ _ | with_reducible refine only_drew ?_ | ((with_reducible refine only_setCell ?_ ?_ _); rotate_left; (focus (first | exact .inl rfl | (left; simp; done) | (right; simp; done) | (right; simp; omega)))) | with_reducible refine World.grownBy.trans ?_ (by assumption) | with_reducible refine only_below ?_ (by assumption)))
  have zz3 := hg3.size
  have HB3 := Lib.hid (HB0.out.only (by omega) hg3 hBg)
  have xR0_3 : w3.cell? ⟨w.heap.size, 0, none⟩ = some (.slice none 0 0) := hq3.cell (by simp [go_sem, *]) (by first | omega | (simp; done) | (simp; omega))
  have fR_3 : ∀ o, w3.frozen? ⟨w.heap.size, o, none⟩ = false := frozen_only hq3 (by first | omega | (simp; done) | (simp; omega)) (by first | omega | (simp; done) | (simp; omega)) (fun o => by simp [go_sem, *])
  have yR_3 : w.heap.size < w3.heap.size := by have := hq3.size; (try simp at this); omega
  have xP0_3 : w3.cell? ⟨w2.heap.size, 0, none⟩ = some (.slice L m d) := hq3.cell (by simp [go_sem, *]) (by first | omega | (simp; done) | (simp; omega))
  have fP_3 : ∀ o, w3.frozen? ⟨w2.heap.size, o, none⟩ = false := frozen_only hq3 (by first | omega | (simp; done) | (simp; omega)) (by first | omega | (simp; done) | (simp; omega)) (fun o => by simp [go_sem, *])
  have yP_3 : w2.heap.size < w3.heap.size := by have := hq3.size; (try simp at this); omega
  clear hS2 hB2 hs3 hq3
  (try clear xR0_2 fR_2 yR_2)
  (try clear xP0_2 fP_2 yP_2)
  have hS3 := S3.out
  have hB3 := HB3.out
  go_wp2_with fail
  go_at_call 29
  refine (pick_any A n c w.heap.size g (0 + 84) 60 _ (by (repeat (first | with_reducible exact hS3 | with_reducible refine Src.alloc ?_ _ | with_reducible refine Src.drewN ?_ _ | ((with_reducible refine Src.set ?_ ?_ _); rotate_left; (focus (first | (simp; done) | (simp; omega))))))) (by (repeat (first | with_reducible exact hB3 | ((with_reducible refine Byts.alloc ?_ ?_ _); rotate_left; (focus (first | omega | (simp; done) | (simp; omega)))) | with_reducible refine Byts.drewN ?_ _ | ((with_reducible refine Byts.set ?_ ?_ _); rotate_left; (focus (first | omega | (simp; done) | (simp; omega))))))) hBg hn (by omega) (by omega)).mono ?_
  rintro e w4 ⟨v, ⟨y, rfl, y0, y1⟩, rfl, hs4, hq4⟩
  have hc4 : Hid (w2.grownBy w4 (some g)) := Lib.hid (World.grownBy.trans (by have hcp := hc3.out; (repeat (first | with_reducible exact hcp | with_reducible refine only_alloc ?_ _ | with_reducible refine only_drewN ?_ _))) hq4)
  have S4 := Lib.hid (Src.more (L := 0 + 86) hs4 (by omega))
  have l4 := hs4.lt
  have hg4 : w.grownBy w4 (some g) := by (repeat (first | with_reducible exact World.grownBy.refl _ _ | with_reducible refine only_alloc ?_ _ | with_reducible refine only_drewN ?_ _ | with_reducible refine only_drew ?_ | ((with_reducible refine only_setCell ?_ ?_ _); rotate_left; (focus (first | exact .inl rfl | (left; simp; done) | (right; simp; done) | (right; simp; omega)))) | with_reducible refine World.grownBy.trans ?_ (by assumption) | with_reducible refine only_below ?_ (by assumption)))
  have zz4 := hg4.size
  have HB4 := Lib.hid (HB0.out.only (by omega) hg4 hBg)
  have xR0_4 : w4.cell? ⟨w.heap.size, 0, none⟩ = some (.slice none 0 0) := hq4.cell (by simp [go_sem, *]) (by first | omega | (simp; done) | (simp; omega))
  have fR_4 : ∀ o, w4.frozen? ⟨w.heap.size, o, none⟩ = false := frozen_only hq4 (by first | omega | (simp; done) | (simp; omega)) (by first | omega | (simp; done) | (simp; omega)) (fun o => by simp [go_sem, *])
  have yR_4 : w.heap.size < w4.heap.size := by have := hq4.size; (try simp at this); omega
  have xP0_4 : w4.cell? ⟨w2.heap.size, 0, none⟩ = some (.slice L m d) := hq4.cell (by simp [go_sem, *]) (by first | omega | (simp; done) | (simp; omega))
  have fP_4 : ∀ o, w4.frozen? ⟨w2.heap.size, o, none⟩ = false := frozen_only hq4 (by first | omega | (simp; done) | (simp; omega)) (by first | omega | (simp; done) | (simp; omega)) (fun o => by simp [go_sem, *])
  have yP_4 : w2.heap.size < w4.heap.size := by have := hq4.size; (try simp at this); omega
  clear hS3 hB3 hs4 hq4
  (try clear xR0_3 fR_3 yR_3)
  (try clear xP0_3 fP_3 yP_3)
  rw [if_neg (by omega)] at y1
  have hS4 := S4.out
  have hB4 := HB4.out
  go_wp2_with fail
  go_at_call 36
  refine (one_any A n c w.heap.size g (0 + 86) 16 _ (by (repeat (first | with_reducible exact hS4 | with_reducible refine Src.alloc ?_ _ | with_reducible refine Src.drewN ?_ _ | ((with_reducible refine Src.set ?_ ?_ _); rotate_left; (focus (first | (simp; done) | (simp; omega))))))) (by (repeat (first | with_reducible exact hB4 | ((with_reducible refine Byts.alloc ?_ ?_ _); rotate_left; (focus (first | omega | (simp; done) | (simp; omega)))) | with_reducible refine Byts.drewN ?_ _ | ((with_reducible refine Byts.set ?_ ?_ _); rotate_left; (focus (first | omega | (simp; done) | (simp; omega))))))) hBg hn (by omega) (by omega)).mono ?_
  rintro e w5 ⟨v, ⟨u, rfl⟩, rfl, hs5, hq5⟩
  have hc5 : Hid (w2.grownBy w5 (some g)) := Lib.hid (World.grownBy.trans (by have hcp := hc4.out; (repeat (first | with_reducible exact hcp | with_reducible refine only_alloc ?_ _ | with_reducible refine only_drewN ?_ _))) hq5)
  have S5 := Lib.hid (Src.more (L := 0 + 88) hs5 (by omega))
  have l5 := hs5.lt
  have hg5 : w.grownBy w5 (some g) := by (repeat (first | with_reducible exact World.grownBy.refl _ _ | with_reducible refine only_alloc ?_ _ | with_reducible refine only_drewN ?_ _ | with_reducible refine only_drew ?_ | ((with_reducible refine only_setCell ?_ ?_ _); rotate_left; (focus (first | exact .inl rfl | (left; simp; done) | (right; simp; done) | (right; simp; omega)))) | with_reducible refine World.grownBy.trans ?_ (by assumption) | with_reducible refine only_below ?_ (by assumption)))
  have zz5 := hg5.size
  have HB5 := Lib.hid (HB0.out.only (by omega) hg5 hBg)
  have xR0_5 : w5.cell? ⟨w.heap.size, 0, none⟩ = some (.slice none 0 0) := hq5.cell (by simp [go_sem, *]) (by first | omega | (simp; done) | (simp; omega))
  have fR_5 : ∀ o, w5.frozen? ⟨w.heap.size, o, none⟩ = false := frozen_only hq5 (by first | omega | (simp; done) | (simp; omega)) (by first | omega | (simp; done) | (simp; omega)) (fun o => by simp [go_sem, *])
  have yR_5 : w.heap.size < w5.heap.size := by have := hq5.size; (try simp at this); omega
  have xP0_5 : w5.cell? ⟨w2.heap.size, 0, none⟩ = some (.slice L m d) := hq5.cell (by simp [go_sem, *]) (by first | omega | (simp; done) | (simp; omega))
  have fP_5 : ∀ o, w5.frozen? ⟨w2.heap.size, o, none⟩ = false := frozen_only hq5 (by first | omega | (simp; done) | (simp; omega)) (by first | omega | (simp; done) | (simp; omega)) (fun o => by simp [go_sem, *])
  have yP_5 : w2.heap.size < w5.heap.size := by have := hq5.size; (try simp at this); omega
  clear hS4 hB4 hs5 hq5
  (try clear xR0_4 fR_4 yR_4)
  (try clear xP0_4 fP_4 yP_4)
  cases u
  · skip
    have hBk : Below w.heap.size w w5 := below_only (Below.refl _ _) hg5 (Nat.le_refl _) hBg
    have HO := Lib.hid (O2.out.only hc5.out (by omega))
    go_wp2
    refine bodyPost_ret (v := .tuple #[.agg #[.slice L m d], .int .i64 (x), .int .i64 (y)]) ?_ rfl ⟨⟨L, m, d, zs, _, _, rfl, m0, by omega, by omega, by omega, by omega, ?_⟩, ?_⟩
    · simp [results, Try.results16, go_sem, *]
    · refine Own.low (base := g + 1) ?_ (by omega)
      have hfar : Own _ _ _ _ _ _ := HO.out
      repeat (first | with_reducible exact hfar | ((with_reducible refine Own.far ?_ ?_ _); rotate_left; (focus (first | (simp; done) | (simp; omega)))) | with_reducible refine Own.drewN ?_ _ | ((with_reducible refine Own.alloc ?_ _)))
    · (repeat (first | with_reducible exact hBk | with_reducible refine below_alloc ?_ _ | with_reducible refine below_drewN ?_ _ | with_reducible refine Below.drew ?_ | ((with_reducible refine below_set ?_ ?_ _); rotate_left; (focus (first | (simp; done) | (simp; omega) | omega)))))
  · skip
    have hS5 := S5.out
    have hB5 := HB5.out
    go_wp2_with fail
    go_at_call 37
    refine (among_any A _ n c w.heap.size g 4 4 [-1, 0, 500, 501] (0 + 88) _ (by (repeat (first | with_reducible exact hS5 | with_reducible refine Src.alloc ?_ _ | with_reducible refine Src.drewN ?_ _ | ((with_reducible refine Src.set ?_ ?_ _); rotate_left; (focus (first | (simp; done) | (simp; omega))))))) (by (repeat (first | with_reducible exact hB5 | ((with_reducible refine Byts.alloc ?_ ?_ _); rotate_left; (focus (first | omega | (simp; done) | (simp; omega)))) | with_reducible refine Byts.drewN ?_ _ | ((with_reducible refine Byts.set ?_ ?_ _); rotate_left; (focus (first | omega | (simp; done) | (simp; omega))))))) hBg hn (by omega)
      ⟨rfl, fun _ => ⟨_, 0, rfl, by simp, fun j hj => by
        match j, hj with
        | 0, _ => simp
        | 1, _ => simp
        | 2, _ => simp
        | 3, _ => simp⟩⟩ (by intro ad h; cases h; first | (simp; done) | (simp; omega)) (by omega) (by omega)).mono ?_
    rintro e w6 ⟨v, ⟨v, rfl, hv⟩, rfl, hs6, hq6⟩
    have hc6 : Hid (w2.grownBy w6 (some g)) := Lib.hid (World.grownBy.trans (by have hcp := hc5.out; (repeat (first | with_reducible exact hcp | with_reducible refine only_alloc ?_ _ | with_reducible refine only_drewN ?_ _))) hq6)
    have S6 := Lib.hid (Src.more (L := 0 + 90) hs6 (by omega))
    have l6 := hs6.lt
    have hg6 : w.grownBy w6 (some g) := by (repeat (first | with_reducible exact World.grownBy.refl _ _ | with_reducible refine only_alloc ?_ _ | with_reducible refine only_drewN ?_ _ | with_reducible refine only_drew ?_ | ((with_reducible refine only_setCell ?_ ?_ _); rotate_left; (focus (first | exact .inl rfl | (left; simp; done) | (right; simp; done) | (right; simp; omega)))) | with_reducible refine World.grownBy.trans ?_ (by assumption) | with_reducible refine only_below ?_ (by assumption)))
    have zz6 := hg6.size
    have HB6 := Lib.hid (HB0.out.only (by omega) hg6 hBg)
    have xR0_6 : w6.cell? ⟨w.heap.size, 0, none⟩ = some (.slice none 0 0) := hq6.cell (by simp [go_sem, *]) (by first | omega | (simp; done) | (simp; omega))
    have fR_6 : ∀ o, w6.frozen? ⟨w.heap.size, o, none⟩ = false := frozen_only hq6 (by first | omega | (simp; done) | (simp; omega)) (by first | omega | (simp; done) | (simp; omega)) (fun o => by simp [go_sem, *])
    have yR_6 : w.heap.size < w6.heap.size := by have := hq6.size; (try simp at this); omega
    have xP0_6 : w6.cell? ⟨w2.heap.size, 0, none⟩ = some (.slice L m d) := hq6.cell (by simp [go_sem, *]) (by first | omega | (simp; done) | (simp; omega))
    have fP_6 : ∀ o, w6.frozen? ⟨w2.heap.size, o, none⟩ = false := frozen_only hq6 (by first | omega | (simp; done) | (simp; omega)) (by first | omega | (simp; done) | (simp; omega)) (fun o => by simp [go_sem, *])
    have yP_6 : w2.heap.size < w6.heap.size := by have := hq6.size; (try simp at this); omega
    clear hS5 hB5 hs6 hq6
    (try clear xR0_5 fR_5 yR_5)
    (try clear xP0_5 fP_5 yP_5)
    have vr : -1 ≤ v ∧ v ≤ 501 := by simp at hv; omega
    clear hv
    have hBk : Below w.heap.size w w6 := below_only (Below.refl _ _) hg6 (Nat.le_refl _) hBg
    have HO := Lib.hid (O2.out.only hc6.out (by omega))
    go_wp2
    refine bodyPost_ret (v := .tuple #[.agg #[.slice L m d], .int .i64 (x), .int .i64 (v)]) ?_ rfl ⟨⟨L, m, d, zs, _, _, rfl, m0, by omega, by omega, by omega, by omega, ?_⟩, ?_⟩
    · simp [results, Try.results16, go_sem, *]
    · refine Own.low (base := g + 1) ?_ (by omega)
      have hfar : Own _ _ _ _ _ _ := HO.out
      repeat (first | with_reducible exact hfar | ((with_reducible refine Own.far ?_ ?_ _); rotate_left; (focus (first | (simp; done) | (simp; omega)))) | with_reducible refine Own.drewN ?_ _ | ((with_reducible refine Own.alloc ?_ _)))
    · (repeat (first | with_reducible exact hBk | with_reducible refine below_alloc ?_ _ | with_reducible refine below_drewN ?_ _ | with_reducible refine Below.drew ?_ | ((with_reducible refine below_set ?_ ?_ _); rotate_left; (focus (first | (simp; done) | (simp; omega) | omega)))))
set_option maxHeartbeats 8000000 in
theorem DrawLiftsUntil_any (A : Option Addr) (n c : Nat) (w : World) (hb : Byts w w.heap.size A n) (hn : n ≤ 4096) :
    Calls Try.prog 6 #[.slice A n c] w fun e w' => (∃ (L : Option Addr) (m d : Nat) (zs : List Int) (x y : Int), e = .returned (.tuple #[.agg #[.slice L m d], .int .i64 x, .int .i64 y]) ∧ m ≤ 100 ∧ -1 ≤ x ∧ x ≤ 100 ∧ 0 ≤ y ∧ y ≤ 13 ∧ Own w' w.heap.size L m d zs) ∧ Below w.heap.size w w' := by
  have HB0 := Lib.hid hb
  clear hb
  go_enter Try.func6, Try.ntmps6
  go_wp2_with fail
  go_at_call 26
  refine (l00From_any A n c _).mono ?_
  rintro e w1 ⟨rfl, hs1, hb1⟩
  have xR0_1 : w1.cell? ⟨w.heap.size, 0, none⟩ = some (.slice none 0 0) := cell_call hb1 (by simp; try omega) (by simp [go_sem])
  have fR_1 : ∀ o, w1.frozen? ⟨w.heap.size, o, none⟩ = false := fun o => (hb1.frozen (by simp; try omega)).trans (by simp [go_sem])
  have yR_1 : w.heap.size < w1.heap.size := by have := hb1.size; (try simp at this); omega
  have S1 : Hid (Src w1 (w.heap.size + 1) A n c 0) := Lib.hid (by simpa using hs1)
  have l1 : w.heap.size + 1 < w1.heap.size := S1.out.lt
  have hBel1 : Below w.heap.size w w1 := by (repeat (first | with_reducible exact Below.refl _ _ | with_reducible refine below_alloc ?_ _ | with_reducible refine below_drewN ?_ _ | with_reducible refine Below.drew ?_ | ((with_reducible refine below_set ?_ ?_ _); rotate_left; (focus (first | (simp; done) | (simp; omega) | omega))) | with_reducible refine below_call ?_ (by assumption)))
  have HB1 := Lib.hid (HB0.out.below hBel1)
  have zz1 := hBel1.size
  have hg1 : w.grownBy w1 (some (w.heap.size + 1)) := only_of_below hBel1
  have hlo0 : w.heap.size < w.heap.size + 1 := by omega
  have hBg : w.heap.size ≤ w.heap.size + 1 := by omega
  have hBw : w.heap.size ≤ w.heap.size := Nat.le_refl _
  clear hs1 hb1 hBel1
  go_wp2_with fail
  generalize w.heap.size + 1 = g at *
  have hS1 := S1.out
  have hB1 := HB1.out
  go_wp2_with fail
  go_at_call 27
  refine (l20Bent_any A n c w.heap.size g 0 _ hS1 hB1 hBg (by omega) hn (by omega)).mono ?_
  rintro e w2 ⟨L, m, d, zs, rfl, ml, m0, ho2, hs2, hq2⟩
  have S2 := Lib.hid (Src.more (L := 0 + 80) hs2 (by omega))
  have l2 := hs2.lt
  have hg2 : w.grownBy w2 (some g) := by (repeat (first | with_reducible exact World.grownBy.refl _ _ | with_reducible refine only_alloc ?_ _ | with_reducible refine only_drewN ?_ _ | with_reducible refine only_drew ?_ | ((with_reducible refine only_setCell ?_ ?_ _); rotate_left; (focus (first | exact .inl rfl | (left; simp; done) | (right; simp; done) | (right; simp; omega)))) | with_reducible refine World.grownBy.trans ?_ (by assumption) | with_reducible refine only_below ?_ (by assumption)))
  have zz2 := hg2.size
  have zc2 := hq2.size
  have HB2 := Lib.hid (HB0.out.only (by omega) hg2 hBg)
  have xR0_2 : w2.cell? ⟨w.heap.size, 0, none⟩ = some (.slice none 0 0) := hq2.cell (by simp [go_sem, *]) (by simp; omega)
  have fR_2 : ∀ o, w2.frozen? ⟨w.heap.size, o, none⟩ = false := frozen_only hq2 (by omega) (by omega) (fun o => by simp [go_sem, *])
  have yR_2 : w.heap.size < w2.heap.size := by omega
  have O2 : Hid (Own w2 (g + 1) L m d zs) := Lib.hid (ho2.low (by omega))
  have hc2 : Hid (w2.grownBy w2 (some g)) := Lib.hid (World.grownBy.refl _ _)
  clear hS1 hB1 hs2 hq2 ho2 xR0_1 fR_1 yR_1
  have dRP : w.heap.size ≠ w2.heap.size := by omega
  have dPR : w2.heap.size ≠ w.heap.size := by omega
  have hS2 := S2.out
  have hB2 := HB2.out
  go_wp2_with fail
  go_at_call 28
  refine (l20At_any A L n c w.heap.size g m d (0 + 80) _ (by (repeat (first | with_reducible exact hS2 | with_reducible refine Src.alloc ?_ _ | with_reducible refine Src.drewN ?_ _ | ((with_reducible refine Src.set ?_ ?_ _); rotate_left; (focus (first | (simp; done) | (simp; omega))))))) (by (repeat (first | with_reducible exact hB2 | ((with_reducible refine Byts.alloc ?_ ?_ _); rotate_left; (focus (first | omega | (simp; done) | (simp; omega)))) | with_reducible refine Byts.drewN ?_ _ | ((with_reducible refine Byts.set ?_ ?_ _); rotate_left; (focus (first | omega | (simp; done) | (simp; omega))))))) hBg (by first | omega | (simp; omega)) hn (by omega) (by omega)).mono ?_
  rintro e w3 ⟨v, ⟨x, rfl, x0, x1⟩, rfl, hs3, hq3⟩
  have hc3 : Hid (w2.grownBy w3 (some g)) := Lib.hid (World.grownBy.trans (by have hcp := hc2.out; (repeat (first | with_reducible exact hcp | with_reducible refine only_alloc ?_ _ | with_reducible refine only_drewN ?_ _))) hq3)
  have S3 := Lib.hid (Src.more (L := 0 + 84) hs3 (by omega))
  have l3 := hs3.lt
  have hg3 : w.grownBy w3 (some g) := by (repeat (first | with_reducible exact World.grownBy.refl _ _ | with_reducible refine only_alloc ?_ _ | with_reducible refine only_drewN ?_ _ | with_reducible refine only_drew ?_ | ((with_reducible refine only_setCell ?_ ?_ _); rotate_left; (focus (first | exact .inl rfl | (left; simp; done) | (right; simp; done) | (right; simp; omega)))) | with_reducible refine World.grownBy.trans ?_ (by assumption) | with_reducible refine only_below ?_ (by assumption)))
  have zz3 := hg3.size
  have HB3 := Lib.hid (HB0.out.only (by omega) hg3 hBg)
  have xR0_3 : w3.cell? ⟨w.heap.size, 0, none⟩ = some (.slice none 0 0) := hq3.cell (by simp [go_sem, *]) (by first | omega | (simp; done) | (simp; omega))
  have fR_3 : ∀ o, w3.frozen? ⟨w.heap.size, o, none⟩ = false := frozen_only hq3 (by first | omega | (simp; done) | (simp; omega)) (by first | omega | (simp; done) | (simp; omega)) (fun o => by simp [go_sem, *])
  have yR_3 : w.heap.size < w3.heap.size := by have := hq3.size; (try simp at this); omega
  have xP0_3 : w3.cell? ⟨w2.heap.size, 0, none⟩ = some (.slice L m d) := hq3.cell (by simp [go_sem, *]) (by first | omega | (simp; done) | (simp; omega))
  have fP_3 : ∀ o, w3.frozen? ⟨w2.heap.size, o, none⟩ = false := frozen_only hq3 (by first | omega | (simp; done) | (simp; omega)) (by first | omega | (simp; done) | (simp; omega)) (fun o => by simp [go_sem, *])
  have yP_3 : w2.heap.size < w3.heap.size := by have := hq3.size; (try simp at this); omega
  clear hS2 hB2 hs3 hq3
  (try clear xR0_2 fR_2 yR_2)
  (try clear xP0_2 fP_2 yP_2)
  have hS3 := S3.out
  have hB3 := HB3.out
  go_wp2_with fail
  have hS3 : Src w3.drew _ _ _ _ _ := hS3
  have hB3 : Byts w3.drew _ _ _ := hB3
  have hc3 := Lib.hid (only_drew hc3.out)
  go_region_with ((go_at_call 29); (refine (pick_any A n c w.heap.size g (0 + 84) 14 _ (by (repeat (first | with_reducible exact hS3 | with_reducible refine Src.alloc ?_ _ | with_reducible refine Src.drewN ?_ _ | ((with_reducible refine Src.set ?_ ?_ _); rotate_left; (focus (first | (simp; done) | (simp; omega))))))) (by (repeat (first | with_reducible exact hB3 | ((with_reducible refine Byts.alloc ?_ ?_ _); rotate_left; (focus (first | omega | (simp; done) | (simp; omega)))) | with_reducible refine Byts.drewN ?_ _ | ((with_reducible refine Byts.set ?_ ?_ _); rotate_left; (focus (first | omega | (simp; done) | (simp; omega))))))) hBg hn (by omega) (by omega)).mono ?_); (rintro e w4 ⟨v, ⟨y, rfl, y0, y1⟩, rfl, hs4, hq4⟩); (have hc4 : Hid (w2.grownBy w4 (some g)) := Lib.hid (World.grownBy.trans (by have hcp := hc3.out; (repeat (first | with_reducible exact hcp | with_reducible refine only_alloc ?_ _ | with_reducible refine only_drewN ?_ _))) hq4)); (have S4 := Lib.hid (Src.more (L := 0 + 86) hs4 (by omega))); (have l4 := hs4.lt); (have hg4 : w.grownBy w4 (some g) := by (repeat (first | with_reducible exact World.grownBy.refl _ _ | with_reducible refine only_alloc ?_ _ | with_reducible refine only_drewN ?_ _ | with_reducible refine only_drew ?_ | ((with_reducible refine only_setCell ?_ ?_ _); rotate_left; (focus (first | exact .inl rfl | (left; simp; done) | (right; simp; done) | (right; simp; omega)))) | with_reducible refine World.grownBy.trans ?_ (by assumption) | with_reducible refine only_below ?_ (by assumption)))); (have zz4 := hg4.size); (have HB4 := Lib.hid (HB0.out.only (by omega) hg4 hBg)); (have xR0_4 : w4.cell? ⟨w.heap.size, 0, none⟩ = some (.slice none 0 0) := hq4.cell (by simp [go_sem, *]) (by first | omega | (simp; done) | (simp; omega))); (have fR_4 : ∀ o, w4.frozen? ⟨w.heap.size, o, none⟩ = false := frozen_only hq4 (by first | omega | (simp; done) | (simp; omega)) (by first | omega | (simp; done) | (simp; omega)) (fun o => by simp [go_sem, *])); (have yR_4 : w.heap.size < w4.heap.size := by have := hq4.size; (try simp at this); omega); (have xP0_4 : w4.cell? ⟨w2.heap.size, 0, none⟩ = some (.slice L m d) := hq4.cell (by simp [go_sem, *]) (by first | omega | (simp; done) | (simp; omega))); (have fP_4 : ∀ o, w4.frozen? ⟨w2.heap.size, o, none⟩ = false := frozen_only hq4 (by first | omega | (simp; done) | (simp; omega)) (by first | omega | (simp; done) | (simp; omega)) (fun o => by simp [go_sem, *])); (have yP_4 : w2.heap.size < w4.heap.size := by have := hq4.size; (try simp at this); omega); (clear hS3 hB3 hs4 hq4); ((try clear xR0_3 fR_3 yR_3)); ((try clear xP0_3 fP_3 yP_3)); (rw [if_neg (by omega)] at y1))
  all_goals
    have hBk : Below w.heap.size w w4 := below_only (Below.refl _ _) hg4 (Nat.le_refl _) hBg
    have HO := Lib.hid (O2.out.only hc4.out (by omega))
    go_wp2
    refine bodyPost_ret (v := .tuple #[.agg #[.slice L m d], .int .i64 (x), .int .i64 (y)]) ?_ rfl ⟨⟨L, m, d, zs, _, _, rfl, m0, by omega, by omega, by omega, by omega, ?_⟩, ?_⟩
    · simp [results, Try.results6, go_sem, *]
    · refine Own.low (base := g + 1) ?_ (by omega)
      have hfar : Own _ _ _ _ _ _ := HO.out
      repeat (first | with_reducible exact hfar | ((with_reducible refine Own.far ?_ ?_ _); rotate_left; (focus (first | (simp; done) | (simp; omega)))) | with_reducible refine Own.drewN ?_ _ | ((with_reducible refine Own.alloc ?_ _)))
    · (repeat (first | with_reducible exact hBk | with_reducible refine below_alloc ?_ _ | with_reducible refine below_drewN ?_ _ | with_reducible refine Below.drew ?_ | ((with_reducible refine below_set ?_ ?_ _); rotate_left; (focus (first | (simp; done) | (simp; omega) | omega)))))
end Go.Proofs.Ytlnoolnbpohjhaa
