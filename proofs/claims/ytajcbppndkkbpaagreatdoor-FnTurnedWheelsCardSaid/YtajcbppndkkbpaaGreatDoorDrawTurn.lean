/- The draw of a wheel and a notch. No conditions but that there are at most 4096 bytes. -/
import Derived.Test.YtajcbppndkkbpaaGreatDoorDrawBentB
namespace Go.Proofs.YtajcbppndkkbpaaGreatDoor
open Go.RowKit
set_option linter.unusedVariables false
set_option linter.unusedSimpArgs false
set_option maxRecDepth 8000
theorem byts_more {w : World} {B B2 n : Nat} {A : Option Addr} (h : Byts w B A n) (hB : B ≤ B2) : Byts w B2 A n := fun hn => by
  obtain ⟨b, off, e, hb, hc⟩ := h hn
  exact ⟨b, off, e, by omega, hc⟩
set_option maxHeartbeats 8000000 in
theorem DrawStrikeOnce_any (A : Option Addr) (n c : Nat) (w : World) (hb : Byts w w.heap.size A n) (hn : n ≤ 4096) :
    Calls Tryz.prog 18 #[.slice A n c] w fun e w' => (∃ (L : Option Addr) (m d : Nat) (zs : List Int) (x : Int), e = .returned (.tuple #[.agg #[.slice L m d], .int .i64 x]) ∧ m ≤ 100 ∧ -1 ≤ x ∧ x ≤ 100 ∧ Bz zs ∧ Own w' w.heap.size L m d zs) ∧ Below w.heap.size w w' := by
  have HB0 := Lib.hid hb
  clear hb
  go_enter Tryz.func18, Tryz.ntmps18
  go_wp2_with fail
  go_at_call 28
  refine (l00From_any A n c _).mono ?_
  rintro e w1 ⟨rfl, hs1, hb1⟩
  have xR0_1 : w1.cell? ⟨w.heap.size, 0, none⟩ = some (.slice none 0 0) := cell_call hb1 (by simp; try omega) (by simp [go_sem])
  have fR_1 : ∀ o, w1.frozen? ⟨w.heap.size, o, none⟩ = false := fun o => (hb1.frozen (by simp; try omega)).trans (by simp [go_sem])
  have yR_1 : w.heap.size < w1.heap.size := by have := hb1.size; (try simp at this); omega
  have S1 : Hid (Src w1 (w.heap.size + 1) A n c 0) := Lib.hid (by simpa using hs1)
  have l1 : w.heap.size + 1 < w1.heap.size := S1.out.lt
  have hBel1 : Below w.heap.size w w1 := by (repeat (first | with_reducible exact Below.refl _ _ | with_reducible refine below_alloc ?_ _ | with_reducible refine below_drewN ?_ _ | with_reducible refine Below.drew ?_ | ((with_reducible refine below_set ?_ ?_ _); rotate_left; (focus (first | (simp; done) | (simp; omega) | omega))) | with_reducible refine below_call ?_ (by assumption)))
  have HB1 := Lib.hid (HB0.out.below hBel1)
  have zz1 := hBel1.size
  have hg1 : w.grownBy w1 (some (w.heap.size + 1)) := only_of_below hBel1
  have hlo0 : w.heap.size < w.heap.size + 1 := by omega
  have hBg : w.heap.size ≤ w.heap.size + 1 := by omega
  have hBw : w.heap.size ≤ w.heap.size := Nat.le_refl _
  clear hs1 hb1 hBel1
  go_wp2_with fail
  generalize w.heap.size + 1 = g at *
  have hS1 := S1.out
  have hB1 := HB1.out
  go_wp2_with fail
  go_at_call 31
  refine (l20Bent_bnd A n c w.heap.size g 0 _ hS1 hB1 hBg (by omega) hn (by omega)).mono ?_
  rintro e w2 ⟨L, m, d, zs, rfl, ml, m0, ho2, hs2, hq2, hz2⟩
  have S2 := Lib.hid (Src.more (L := 0 + 80) hs2 (by omega))
  have l2 := hs2.lt
  have hg2 : w.grownBy w2 (some g) := by (repeat (first | with_reducible exact World.grownBy.refl _ _ | with_reducible refine only_alloc ?_ _ | with_reducible refine only_drewN ?_ _ | with_reducible refine only_drew ?_ | ((with_reducible refine only_setCell ?_ ?_ _); rotate_left; (focus (first | exact .inl rfl | (left; simp; done) | (right; simp; done) | (right; simp; omega)))) | with_reducible refine World.grownBy.trans ?_ (by assumption) | with_reducible refine only_below ?_ (by assumption)))
  have zz2 := hg2.size
  have zc2 := hq2.size
  have HB2 := Lib.hid (HB0.out.only (by omega) hg2 hBg)
  have xR0_2 : w2.cell? ⟨w.heap.size, 0, none⟩ = some (.slice none 0 0) := hq2.cell (by simp [go_sem, *]) (by simp; omega)
  have fR_2 : ∀ o, w2.frozen? ⟨w.heap.size, o, none⟩ = false := frozen_only hq2 (by omega) (by omega) (fun o => by simp [go_sem, *])
  have yR_2 : w.heap.size < w2.heap.size := by omega
  have O2 : Hid (Own w2 (g + 1) L m d zs) := Lib.hid (ho2.low (by omega))
  have hc2 : Hid (w2.grownBy w2 (some g)) := Lib.hid (World.grownBy.refl _ _)
  have HZ := Lib.hid hz2; clear hz2; clear hS1 hB1 hs2 hq2 ho2 xR0_1 fR_1 yR_1
  have dRP : w.heap.size ≠ w2.heap.size := by omega
  have dPR : w2.heap.size ≠ w.heap.size := by omega
  have hS2 : Src (w2.alloc (.cells #[.slice L m d] 26)).drew g A n c (0 + 80) := Src.alloc S2.out _
  have hB2 : Byts (w2.alloc (.cells #[.slice L m d] 26)).drew w.heap.size A n := Byts.alloc HB2.out (by omega) _
  have hc2 : Hid (w2.grownBy (w2.alloc (.cells #[.slice L m d] 26)).drew (some g)) := Lib.hid (only_drew (only_alloc hc2.out _))
  go_wp2
  go_region_with ((go_at_call 41); (refine (l20At_any A L n c w.heap.size g m d (0 + 80) _ (by (repeat (first | with_reducible exact hS2 | with_reducible refine Src.alloc ?_ _ | with_reducible refine Src.drewN ?_ _ | ((with_reducible refine Src.set ?_ ?_ _); rotate_left; (focus (first | (simp; done) | (simp; omega))))))) (by (repeat (first | with_reducible exact hB2 | ((with_reducible refine Byts.alloc ?_ ?_ _); rotate_left; (focus (first | omega | (simp; done) | (simp; omega)))) | with_reducible refine Byts.drewN ?_ _ | ((with_reducible refine Byts.set ?_ ?_ _); rotate_left; (focus (first | omega | (simp; done) | (simp; omega))))))) hBg (by first | omega | (simp; omega)) hn (by omega) (by omega)).mono ?_); (rintro e w3 ⟨v, ⟨x, rfl, x0, x1⟩, rfl, hs3, hq3⟩); (have hc3 : Hid (w2.grownBy w3 (some g)) := Lib.hid (World.grownBy.trans (by have hcp := hc2.out; (repeat (first | with_reducible exact hcp | with_reducible refine only_alloc ?_ _ | with_reducible refine only_drewN ?_ _))) hq3)); (have S3 := Lib.hid (Src.more (L := 0 + 84) hs3 (by omega))); (have l3 := hs3.lt); (have hg3 : w.grownBy w3 (some g) := by (repeat (first | with_reducible exact World.grownBy.refl _ _ | with_reducible refine only_alloc ?_ _ | with_reducible refine only_drewN ?_ _ | with_reducible refine only_drew ?_ | ((with_reducible refine only_setCell ?_ ?_ _); rotate_left; (focus (first | exact .inl rfl | (left; simp; done) | (right; simp; done) | (right; simp; omega)))) | with_reducible refine World.grownBy.trans ?_ (by assumption) | with_reducible refine only_below ?_ (by assumption)))); (have zz3 := hg3.size); (have HB3 := Lib.hid (HB0.out.only (by omega) hg3 hBg)); (have xR0_3 : w3.cell? ⟨w.heap.size, 0, none⟩ = some (.slice none 0 0) := hq3.cell (by simp [go_sem, *]) (by first | omega | (simp; done) | (simp; omega))); (have fR_3 : ∀ o, w3.frozen? ⟨w.heap.size, o, none⟩ = false := frozen_only hq3 (by first | omega | (simp; done) | (simp; omega)) (by first | omega | (simp; done) | (simp; omega)) (fun o => by simp [go_sem, *])); (have yR_3 : w.heap.size < w3.heap.size := by have := hq3.size; (try simp at this); omega); (have xP0_3 : w3.cell? ⟨w2.heap.size, 0, none⟩ = some (.slice L m d) := hq3.cell (by simp [go_sem, *]) (by first | omega | (simp; done) | (simp; omega))); (have fP_3 : ∀ o, w3.frozen? ⟨w2.heap.size, o, none⟩ = false := frozen_only hq3 (by first | omega | (simp; done) | (simp; omega)) (by first | omega | (simp; done) | (simp; omega)) (fun o => by simp [go_sem, *])); (have yP_3 : w2.heap.size < w3.heap.size := by have := hq3.size; (try simp at this); omega); (clear hS2 hB2 hs3 hq3); ((try clear xR0_2 fR_2 yR_2)); ((try clear xP0_2 fP_2 yP_2)))
  all_goals
    have hBk : Below w.heap.size w w3 := below_only (Below.refl _ _) hg3 (Nat.le_refl _) hBg
    have HO := Lib.hid (O2.out.only hc3.out (by omega))
    go_wp2
    refine bodyPost_ret (v := .tuple #[.agg #[.slice L m d], .int .i64 x]) ?_ rfl ⟨⟨L, m, d, zs, x, rfl, m0, by omega, by omega, HZ.out, ?_⟩, ?_⟩
    · simp [results, Tryz.results18, go_sem, *]
    · refine Own.low (base := g + 1) ?_ (by omega)
      have hfar : Own _ _ _ _ _ _ := HO.out
      repeat (first | with_reducible exact hfar | ((with_reducible refine Own.far ?_ ?_ _); rotate_left; (focus (first | (simp; done) | (simp; omega)))) | with_reducible refine Own.drewN ?_ _ | ((with_reducible refine Own.alloc ?_ _)))
    · (repeat (first | with_reducible exact hBk | with_reducible refine below_alloc ?_ _ | with_reducible refine below_drewN ?_ _ | with_reducible refine Below.drew ?_ | ((with_reducible refine below_set ?_ ?_ _); rotate_left; (focus (first | (simp; done) | (simp; omega) | omega)))))
set_option maxHeartbeats 4000000 in
theorem DrawTurnCountWheel_any (A : Option Addr) (n c : Nat) (w : World) (hb : Byts w w.heap.size A n) (hn : n ≤ 4096) :
    Calls Tryz.prog 5 #[.slice A n c] w fun e w' => (∃ (L : Option Addr) (m d : Nat) (zs : List Int) (x : Int), e = .returned (.tuple #[.agg #[.slice L m d], .int .i64 x]) ∧ m ≤ 100 ∧ -1 ≤ x ∧ x ≤ 100 ∧ Bz zs ∧ Own w' w.heap.size L m d zs) ∧ Below w.heap.size w w' := by
  have hb2 : Byts (w.alloc (.cells #[.slice none 0 0] 26)) (w.alloc (.cells #[.slice none 0 0] 26)).heap.size A n := byts_more (hb.alloc (Nat.le_refl _) _) (by simp)
  have HB0 := Lib.hid hb2
  clear hb hb2
  go_enter Tryz.func5, Tryz.ntmps5
  go_wp2_with fail
  go_at_call 18
  refine (DrawStrikeOnce_any A n c _ HB0.out hn).mono ?_
  rintro e w1 ⟨⟨L, m, d, zs, x, rfl, m0, x0, x1, hz, ho⟩, hb1⟩
  have z1 := hb1.size
  (try simp at z1)
  have c1 : w1.cell? ⟨w.heap.size, 0, none⟩ = some (.slice none 0 0) := (hb1.cell (by simp)).trans (by simp)
  have f1 : w1.frozen? ⟨w.heap.size, 0, none⟩ = false := (hb1.frozen (by simp)).trans (by simp)
  have HO := Lib.hid ((ho.far (p := ⟨w.heap.size, 0, none⟩) (by simp) (.slice L m d)).low (b0 := w.heap.size) (by simp))
  have HZ := Lib.hid hz
  have hBk : Below w.heap.size w w1 := ((Below.refl _ _).alloc (Nat.le_refl _) _).trans (hb1.mono (by simp))
  have HBk := Lib.hid (below_set hBk (p := ⟨w.heap.size, 0, none⟩) (by simp) (.slice L m d))
  clear ho hz hb1 hBk
  go_wp2
  refine bodyPost_ret (v := .tuple #[.agg #[.slice L m d], .int .i64 x]) ?_ rfl ⟨⟨L, m, d, zs, x, rfl, m0, x0, x1, HZ.out, HO.out⟩, HBk.out⟩
  simp [results, Tryz.results5, go_sem, *]
end Go.Proofs.YtajcbppndkkbpaaGreatDoor
