/- The draw of a moon work and a day. No conditions but that there are at most 4096 bytes. -/
import Derived.Test.YtanfccdeacohfaaDrawMoon3
namespace Go.Proofs.Ytanfccdeacohfaa
open Go.RowKit
set_option linter.unusedVariables false
set_option linter.unusedSimpArgs false
set_option maxHeartbeats 8000000 in
theorem DrawMoonAge_any (A : Option Addr) (n c : Nat) (w : World) (hb : Byts w w.heap.size A n) (hn : n ≤ 4096) :
    Calls Try.prog 43 #[.slice A n c] w fun e w' => (∃ a b z x : Int, e = .returned (.tuple #[.agg #[.int .i64 a, .int .i64 b, .int .i64 z], .int .i64 x]) ∧ -20000000 ≤ x ∧ x ≤ 20000000) ∧ Below w.heap.size w w' := by
  have HB0 := Lib.hid hb
  clear hb
  go_enter Try.func43, Try.ntmps43
  go_wp2_with fail
  go_at_call 59
  refine (l00From_any A n c _).mono ?_
  rintro e w1 ⟨rfl, hs1, hb1⟩
  have xR0_1 : w1.cell? ⟨w.heap.size, 0, none⟩ = some (.int .i64 0) := cell_call hb1 (by simp; try omega) (by simp [go_sem])
  have xR1_1 : w1.cell? ⟨w.heap.size, 1, none⟩ = some (.int .i64 0) := cell_call hb1 (by simp; try omega) (by simp [go_sem])
  have xR2_1 : w1.cell? ⟨w.heap.size, 2, none⟩ = some (.int .i64 0) := cell_call hb1 (by simp; try omega) (by simp [go_sem])
  have fR_1 : ∀ o, w1.frozen? ⟨w.heap.size, o, none⟩ = false := fun o => (hb1.frozen (by simp; try omega)).trans (by simp [go_sem])
  have yR_1 : w.heap.size < w1.heap.size := by have := hb1.size; (try simp at this); omega
  have S1 : Hid (Src w1 (w.heap.size + 1) A n c 0) := Lib.hid (by simpa using hs1)
  have l1 : w.heap.size + 1 < w1.heap.size := S1.out.lt
  have hBel1 : Below w.heap.size w w1 := by (repeat (first | with_reducible exact Below.refl _ _ | with_reducible refine below_alloc ?_ _ | with_reducible refine below_drewN ?_ _ | with_reducible refine Below.drew ?_ | ((with_reducible refine below_set ?_ ?_ _); rotate_left; (focus (first | (simp; done) | (simp; omega) | omega))) | with_reducible refine below_call ?_ (by assumption)))
  have HB1 := Lib.hid (HB0.out.below hBel1)
  have zz1 := hBel1.size
  have hg1 : w.grownBy w1 (some (w.heap.size + 1)) := only_of_below hBel1
  have hlo0 : w.heap.size < w.heap.size + 1 := by omega
  have hBg : w.heap.size ≤ w.heap.size + 1 := by omega
  have hBw : w.heap.size ≤ w.heap.size := Nat.le_refl _
  clear hs1 hb1 hBel1
  go_wp2_with fail
  generalize w.heap.size + 1 = g at *
  have hS1 := S1.out
  have hB1 := HB1.out
  go_wp2_with fail
  go_at_call 74
  refine (l19Draw_any A n c w.heap.size g 0 _ (by (repeat (first | with_reducible exact hS1 | with_reducible refine Src.alloc ?_ _ | with_reducible refine Src.drewN ?_ _ | ((with_reducible refine Src.set ?_ ?_ _); rotate_left; (focus (first | (simp; done) | (simp; omega))))))) (by (repeat (first | with_reducible exact hB1 | ((with_reducible refine Byts.alloc ?_ ?_ _); rotate_left; (focus (first | omega | (simp; done) | (simp; omega)))) | with_reducible refine Byts.drewN ?_ _ | ((with_reducible refine Byts.set ?_ ?_ _); rotate_left; (focus (first | omega | (simp; done) | (simp; omega))))))) hBg (by omega) hn (by omega)).mono ?_
  rintro e w2 ⟨v, ⟨a, b, z, rfl⟩, rfl, hs2, hq2⟩
  have S2 := Lib.hid (Src.more (L := 0 + 60) hs2 (by omega))
  have l2 := hs2.lt
  have hg2 : w.grownBy w2 (some g) := by (repeat (first | with_reducible exact World.grownBy.refl _ _ | with_reducible refine only_alloc ?_ _ | with_reducible refine only_drewN ?_ _ | with_reducible refine only_drew ?_ | ((with_reducible refine only_setCell ?_ ?_ _); rotate_left; (focus (first | exact .inl rfl | (left; simp; done) | (right; simp; done) | (right; simp; omega)))) | with_reducible refine World.grownBy.trans ?_ (by assumption) | with_reducible refine only_below ?_ (by assumption)))
  have zz2 := hg2.size
  have HB2 := Lib.hid (HB0.out.only (by omega) hg2 hBg)
  have xR0_2 : w2.cell? ⟨w.heap.size, 0, none⟩ = some (.int .i64 0) := hq2.cell (by simp [go_sem, *]) (by first | omega | (simp; done) | (simp; omega))
  have xR1_2 : w2.cell? ⟨w.heap.size, 1, none⟩ = some (.int .i64 0) := hq2.cell (by simp [go_sem, *]) (by first | omega | (simp; done) | (simp; omega))
  have xR2_2 : w2.cell? ⟨w.heap.size, 2, none⟩ = some (.int .i64 0) := hq2.cell (by simp [go_sem, *]) (by first | omega | (simp; done) | (simp; omega))
  have fR_2 : ∀ o, w2.frozen? ⟨w.heap.size, o, none⟩ = false := frozen_only hq2 (by first | omega | (simp; done) | (simp; omega)) (by first | omega | (simp; done) | (simp; omega)) (fun o => by simp [go_sem, *])
  have yR_2 : w.heap.size < w2.heap.size := by have := hq2.size; (try simp at this); omega
  clear hS1 hB1 hs2 hq2
  (try clear xR0_1 xR1_1 xR2_1 fR_1 yR_1)
  have dRP : w.heap.size ≠ w2.heap.size := by omega
  have dPR : w2.heap.size ≠ w.heap.size := by omega
  have S20 := Lib.hid (S2.out.alloc (.cells #[.int .i64 a, .int .i64 b, .int .i64 z] 29))
  have HB20 := Lib.hid (HB2.out.alloc (by omega) (.cells #[.int .i64 a, .int .i64 b, .int .i64 z] 29))
  have hg20 : w.grownBy (w2.alloc (.cells #[.int .i64 a, .int .i64 b, .int .i64 z] 29)) (some g) := only_alloc hg2 _
  have y20 : w2.heap.size < (w2.alloc (.cells #[.int .i64 a, .int .i64 b, .int .i64 z] 29)).heap.size := by simp
  have yR_20 : w.heap.size < (w2.alloc (.cells #[.int .i64 a, .int .i64 b, .int .i64 z] 29)).heap.size := by simp; omega
  have p0 : (w2.alloc (.cells #[.int .i64 a, .int .i64 b, .int .i64 z] 29)).cell? ⟨w2.heap.size, 0, none⟩ = some (.int .i64 a) := by simp
  have p1 : (w2.alloc (.cells #[.int .i64 a, .int .i64 b, .int .i64 z] 29)).cell? ⟨w2.heap.size, 1, none⟩ = some (.int .i64 b) := by simp
  have p2 : (w2.alloc (.cells #[.int .i64 a, .int .i64 b, .int .i64 z] 29)).cell? ⟨w2.heap.size, 2, none⟩ = some (.int .i64 z) := by simp
  have xR0_20 : (w2.alloc (.cells #[.int .i64 a, .int .i64 b, .int .i64 z] 29)).cell? ⟨w.heap.size, 0, none⟩ = some (.int .i64 0) := by simp [go_sem, *]
  have xR1_20 : (w2.alloc (.cells #[.int .i64 a, .int .i64 b, .int .i64 z] 29)).cell? ⟨w.heap.size, 1, none⟩ = some (.int .i64 0) := by simp [go_sem, *]
  have xR2_20 : (w2.alloc (.cells #[.int .i64 a, .int .i64 b, .int .i64 z] 29)).cell? ⟨w.heap.size, 2, none⟩ = some (.int .i64 0) := by simp [go_sem, *]
  have fR_20 : ∀ o, (w2.alloc (.cells #[.int .i64 a, .int .i64 b, .int .i64 z] 29)).frozen? ⟨w.heap.size, o, none⟩ = false := fun o => by simp [go_sem, *]
  go_wp2
  clear xR0_2 xR1_2 xR2_2 fR_2 yR_2
  generalize (w2.alloc (.cells #[.int .i64 a, .int .i64 b, .int .i64 z] 29)) = w20 at *
  go_region_held3 (fun w' => w'.cell? ⟨w2.heap.size, 0, none⟩ = some (.int .i64 a) ∧ w'.cell? ⟨w2.heap.size, 1, none⟩ = some (.int .i64 b) ∧ w'.cell? ⟨w2.heap.size, 2, none⟩ = some (.int .i64 z))
    (first | go_keep | (refine ⟨?_, ?_, ?_⟩ <;> first | exact hq21.cell p0 (by simp; omega) | exact hq21.cell p1 (by simp; omega) | exact hq21.cell p2 (by simp; omega)))
    ((go_at_call 75; refine (l19DrawDay_any A n c w.heap.size g (0 + 60) _ (Src.drewN S20.out 1) (Byts.drewN HB20.out 1) hBg (by first | omega | (simp; omega)) hn (by omega)).mono ?_; rintro e w21 ⟨v, ⟨x, rfl, x0, x1⟩, rfl, hs21, hq21⟩; have xR0_21 : w21.cell? ⟨w.heap.size, 0, none⟩ = some (.int .i64 0) := hq21.cell (by simp [go_sem, *]) (by simp; omega); have xR1_21 : w21.cell? ⟨w.heap.size, 1, none⟩ = some (.int .i64 0) := hq21.cell (by simp [go_sem, *]) (by simp; omega); have xR2_21 : w21.cell? ⟨w.heap.size, 2, none⟩ = some (.int .i64 0) := hq21.cell (by simp [go_sem, *]) (by simp; omega); have fR_21 : ∀ o, w21.frozen? ⟨w.heap.size, o, none⟩ = false := frozen_only hq21 (by simp; omega) (by omega) (fun o => by simp [go_sem, *])))
  have hg21 : w.grownBy w21 (some g) := (only_drewN hg20 1).trans hq21
  have hBk : Below w.heap.size w w21 := below_only (Below.refl _ _) hg21 (Nat.le_refl _) hBg
  go_wp2
  refine bodyPost_ret (v := .tuple #[.agg #[.int .i64 a, .int .i64 b, .int .i64 z], .int .i64 x]) ?_ rfl ⟨⟨a, b, z, x, rfl, by omega, by omega⟩, ?_⟩
  · simp [results, Try.results43, go_sem, *]
  · (repeat (first | with_reducible exact hBk | with_reducible refine below_alloc ?_ _ | with_reducible refine below_drewN ?_ _ | with_reducible refine Below.drew ?_ | ((with_reducible refine below_set ?_ ?_ _); rotate_left; (focus (first | (simp; done) | (simp; omega) | omega)))))
end Go.Proofs.Ytanfccdeacohfaa
