/- The reference's l17Month: a month of a year as a cam shows it. No conditions but those of a calendar and a cam that belong to one another. -/
import Derived.Test.YthjldjbblaioaaaCamF
import Derived.Deep.DeepCutAuto
import Derived.StillTailTactics
namespace Go.Proofs.Ythjldjbblaioaaa
open Go.RowKit
set_option linter.unusedVariables false
set_option linter.unusedSimpArgs false
/-- the fault whose cells lie in block g -/
def FltAt (w : World) (g : Nat) (a b c d : Int) : Prop :=
  w.cell? ⟨g, 0, none⟩ = some (.int .i64 a) ∧ w.cell? ⟨g, 1, none⟩ = some (.int .i64 b) ∧ w.cell? ⟨g, 2, none⟩ = some (.int .i64 c) ∧ w.cell? ⟨g, 3, none⟩ = some (.int .i64 d) ∧ ∀ o, w.frozen? ⟨g, o, none⟩ = false
section
variable {w w' : World} {g : Nat} {a b c d : Int}
theorem FltAt.lt (h : FltAt w g a b c d) : g < w.heap.size := World.block_lt_of_cell? w _ h.1
theorem FltAt.keep (h : FltAt w g a b c d) (hk : w'.heap[g]? = w.heap[g]?) : FltAt w' g a b c d := by
  have hc : ∀ o, w'.cell? ⟨g, o, none⟩ = w.cell? ⟨g, o, none⟩ := fun o => World.cell?_of_block (w := w) hk
  have hf : ∀ o, w'.frozen? ⟨g, o, none⟩ = w.frozen? ⟨g, o, none⟩ := fun o => World.frozen?_of_block (w := w) hk
  obtain ⟨h0, h1, h2, h3, h4⟩ := h
  exact ⟨(hc 0).trans h0, (hc 1).trans h1, (hc 2).trans h2, (hc 3).trans h3, fun o => (hf o).trans (h4 o)⟩
theorem FltAt.call (h : FltAt w g a b c d) (hb : Below w.heap.size w w') : FltAt w' g a b c d := h.keep (hb.block g h.lt)
theorem FltAt.far (h : FltAt w g a b c d) {p : Addr} (hp : p.block ≠ g) (u : Value) : FltAt (w.setCell p u) g a b c d := h.keep (Below.heap_setCell w p u g (fun e => hp e.symm))
theorem FltAt.set2 (h : FltAt w g a b c d) (v : Int) : FltAt (w.setCell ⟨g, 2, none⟩ (.int .i64 v)) g a b v d := by
  obtain ⟨h0, h1, h2, h3, h4⟩ := h
  refine ⟨?_, ?_, ?_, ?_, fun o => by simp [h4 o]⟩ <;> simp [go_sem, h0, h1, h2, h3]
theorem flt_new (w : World) (t : TypeId) (a b c d : Int) : FltAt (w.alloc (.cells #[.int .i64 a, .int .i64 b, .int .i64 c, .int .i64 d] t)) w.heap.size a b c d := ⟨by simp [go_sem], by simp [go_sem], by simp [go_sem], by simp [go_sem], fun o => by simp [go_sem]⟩
end
set_option maxRecDepth 8000 in
set_option maxHeartbeats 4000000 in
theorem l17Month_any (g : Nat) (nm : ByteArray) (A A' L : Option Addr) (n n' c c' l e B : Nat) (ms : List Mth) (rs : List Rul) (cw : Int) (zs : List Int) (y k : Nat) (w : World) (hC : CalAt w g nm A A' n n' c c' cw) (h : Months w B A n ms) (h' : Rules w B A' n' rs) (hI : Ints w B L l zs) (hB : B ≤ w.heap.size) (hn1 : 1 ≤ n) (hn : n ≤ 20) (hn' : n' ≤ 1048576) (hl1 : 1 ≤ l) (hl : l ≤ 260) (k3 : l % n = 0) (hev : ∀ j, j < n' → 1 ≤ (rs.getD j r0).ev) (hy : y ≤ 1000000000) (hk : k < n) :
    Calls Try.prog 113 #[.pointer (some ⟨g, 0, none⟩), .slice L l e, .int .i64 (y : Int), .int .i64 (k : Int)] w fun e w' => e = .returned (.tuple #[.agg #[.int .i64 (y : Int), .int .i64 ((k : Int) + 1), .int .i64 (zs.getD (placeY l n y + k) 0), .int .i64 (dayK ms rs n' (y : Int) ((k : Int) + 1))], .bool (zs.getD (placeY l n y + k) 0 != dayK ms rs n' (y : Int) ((k : Int) + 1))]) ∧ Below w.heap.size w w' := by
  have H := Lib.hid (Tri.more h hB)
  have H' := Lib.hid (Tri.more h' hB)
  have HI := Lib.hid (hI.more hB)
  have HC := Lib.hid hC
  have zg := hC.lt
  have q1 := hC.c1
  obtain ⟨b1, b2, b3⟩ := place_bd (y := y) k3 hl1 hn1
  obtain ⟨bl, offl, rfl, hbl, hcl⟩ := (hI.more hB).at_ (k := placeY l n y + k) (by omega)
  have cD := fun (W : World) (hb : Below w.heap.size w W) => l15Days_k g A A' n n' c c' w.heap.size k ms rs (y : Int) W (Nat.lt_of_lt_of_le zg hb.size) (HC.out.below zg hb).c1 (HC.out.below zg hb).c2 (Tri.below H.out hb) (Tri.below H'.out hb) hb.size (by omega) (by omega) hev (by omega) (by omega) hk
  have t1 := nat_tdiv l n
  have t2 := nat_tmod y (l / n)
  have hP : ((y % (l / n) : Nat) : Int) * (n : Int) = ((placeY l n y : Nat) : Int) := by unfold placeY; push_cast; rfl
  have hqz : l / n ≤ l := Nat.div_le_self l n
  have hR0 : y % (l / n) ≤ y := Nat.mod_le _ _
  generalize placeY l n y = P at *
  generalize hRQ : y % (l / n) = R at *
  generalize l / n = Q at *
  have e4 : ¬ (Q = 0) := by omega
  have e5 : ¬ (n = 0) := by omega
  generalize zs.getD (P + k) 0 = x at *
  generalize dayK ms rs n' (y : Int) ((k : Int) + 1) = D at *
  have CD := Lib.hid cD
  have e0 : ¬ ((n : Int) = 0) := by omega
  have e1 : ((n : Int) == 0) = false := by rw [beq_eq_false_iff_ne]; omega
  have e2 : ¬ ((Q : Int) = 0) := by omega
  have e3 : ((Q : Int) == 0) = false := by rw [beq_eq_false_iff_ne]; omega
  have s1 : IntKind.i64.wrap (Q : Int) = (Q : Int) := IntWalk.i64_in _ (by omega)
  have s2 : IntKind.i64.wrap (R : Int) = (R : Int) := IntWalk.i64_in _ (by omega)
  have s3 : IntKind.i64.wrap ((R : Int) * (n : Int)) = (P : Int) := by rw [hP]; exact IntWalk.i64_in _ (by omega)
  have s8 : IntKind.i64.wrap (P : Int) = (P : Int) := IntWalk.i64_in _ (by omega)
  have s4 : IntKind.i64.wrap ((P : Int) + (k : Int)) = (P : Int) + (k : Int) := IntWalk.i64_in _ (by omega)
  have s5 : (0 : Int) ≤ (P : Int) + (k : Int) := by omega
  have s6 : (P : Int) + (k : Int) < (l : Int) := by omega
  have s7 : ((P : Int) + (k : Int)).toNat = P + k := by omega
  obtain ⟨bb, hbb⟩ : ∃ bb, (x != D) = bb := ⟨_, rfl⟩
  rw [hbb]
  have k0 : (0 : Int) ≤ (k : Int) := by omega
  have hcx := hcl
  clear h h' hI hC hev cD hcl
  go_enter Try.func113, Try.ntmps113
  go_upto_region 2 with fail
  go_wp2_with fail
  go_at_call 82
  refine (CD.out _ (by (repeat (first | with_reducible exact Below.refl _ _ | with_reducible refine below_alloc ?_ _ | with_reducible refine below_drewN ?_ _ | with_reducible refine Below.drew ?_ | ((with_reducible refine below_set ?_ ?_ _); rotate_left; (focus (first | (simp; done) | (simp; omega) | omega))) | with_reducible refine below_call ?_ (by assumption))))).mono ?_
  rintro e1 w2 ⟨rfl, nq, rfl⟩
  go_upto_region 3 with fail
  obtain ⟨W1, hW1⟩ : ∃ W, (((w.alloc (.cells #[.int .i64 0, .int .i64 0, .int .i64 0, .int .i64 0] 64)).drewN nq).alloc (.cells #[.int .i64 (y : Int), .int .i64 ((k : Int) + 1), .int .i64 0, .int .i64 D] 64)) = W := ⟨_, rfl⟩
  have F1 := Lib.hid (hW1 ▸ flt_new ((w.alloc (.cells #[.int .i64 0, .int .i64 0, .int .i64 0, .int .i64 0] 64)).drewN nq) 64 (y : Int) ((k : Int) + 1) 0 D)
  have F0 := Lib.hid (hW1 ▸ (show FltAt ((w.alloc (.cells #[.int .i64 0, .int .i64 0, .int .i64 0, .int .i64 0] 64)).drewN nq) w.heap.size 0 0 0 0 from flt_new w 64 0 0 0 0).call (alb' _ (.cells #[.int .i64 (y : Int), .int .i64 ((k : Int) + 1), .int .i64 0, .int .i64 D] 64)))
  have BL : Below w.heap.size w W1 := by rw [← hW1]; (repeat (first | with_reducible exact Below.refl _ _ | with_reducible refine below_alloc ?_ _ | with_reducible refine below_drewN ?_ _ | with_reducible refine Below.drew ?_ | ((with_reducible refine below_set ?_ ?_ _); rotate_left; (focus (first | (simp; done) | (simp; omega) | omega))) | with_reducible refine below_call ?_ (by assumption)))
  have zE : ((w.alloc (.cells #[.int .i64 0, .int .i64 0, .int .i64 0, .int .i64 0] 64)).drewN nq).heap.size = w.heap.size + 1 := by simp
  rw [zE] at F1
  rw [hW1]
  clear hW1 zE
  have u1 := (HC.out.below zg BL).c1
  have hx := (BL.cell (p := ⟨bl, offl + (P + k), none⟩) hbl).trans hcx
  obtain ⟨f10, f11, f12, f13, f1f⟩ := F1.out
  have f1f2 := f1f 2
  clear hcx f1f
  go_cut [11] (fun p wx => p = .pointer (some ⟨w.heap.size + 1, 0, none⟩) ∧ Hid (FltAt wx (w.heap.size + 1) (y : Int) ((k : Int) + 1) x D) ∧ Hid (FltAt wx w.heap.size 0 0 0 0) ∧ Hid (Below w.heap.size w wx))
  case first =>
    refine wp_region_still_tail 14 (by kernel_rfl) (by kernel_rfl) ?_
    simp only [List.take_succ_cons, List.take_zero, List.drop_succ_cons, List.drop_zero]
    repeat still_step
    refine wpStill_nil ?_
    change wpList _ _ _ _ _ W1.drew
    have k2 : W1.drew.cell? ⟨w.heap.size + 1, 2, none⟩ = some (.int .i64 0) := f12
    have k3 : W1.drew.frozen? ⟨w.heap.size + 1, 2, none⟩ = false := f1f2
    go_wp2_with fail
    go_meet
    exact ⟨rfl, Lib.hid ((show FltAt W1.drew (w.heap.size + 1) (y : Int) ((k : Int) + 1) 0 D from F1.out).set2 x), Lib.hid ((show FltAt W1.drew w.heap.size 0 0 0 0 from F0.out).far (by simp) _), Lib.hid ((Below.drew BL).setCell (by simp) _)⟩
  case rest =>
    obtain ⟨rfl, F2, F3, B2⟩ := hcut
    clear f10 f11 f12 f13 f1f2 u1 hx F0 F1
    obtain ⟨f10, f11, f12, f13, -⟩ := F2.out
    obtain ⟨f20, f21, f22, f23, f2f⟩ := F3.out
    have f30 := f2f 0
    have f31 := f2f 1
    have f32 := f2f 2
    have f33 := f2f 3
    clear f2f
    go_wp2_with fail
    go_region
    all_goals
      go_wp2
      refine bodyPost_ret (v := .tuple #[.agg #[.int .i64 (y : Int), .int .i64 ((k : Int) + 1), .int .i64 x, .int .i64 D], .bool bb]) ?_ rfl ⟨rfl, ?_⟩
      · simp [results, Try.results113, go_sem, *]
      · have hB2 := Below.drew B2.out
        exact (((hB2.setCell (Nat.le_refl _) _).setCell (Nat.le_refl _) _).setCell (Nat.le_refl _) _).setCell (Nat.le_refl _) _
end Go.Proofs.Ythjldjbblaioaaa
