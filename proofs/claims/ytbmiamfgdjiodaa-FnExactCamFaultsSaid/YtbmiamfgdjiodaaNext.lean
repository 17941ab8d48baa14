/- Contract of the next day, the reference's. No conditions but that there are fewer than 2^20 months. -/
import Derived.Test.YtbmiamfgdjiodaaDate2
namespace Go.Proofs.Ytbmiamfgdjiodaa
open Go.RowKit
set_option linter.unusedVariables false
set_option linter.unusedSimpArgs false
/-- the date whose cells lie in block g -/
def DatAt (w : World) (g : Nat) (y m d : Int) : Prop :=
  w.cell? ⟨g, 0, none⟩ = some (.int .i64 y) ∧ w.cell? ⟨g, 1, none⟩ = some (.int .i64 m) ∧ w.cell? ⟨g, 2, none⟩ = some (.int .i64 d) ∧ ∀ o, w.frozen? ⟨g, o, none⟩ = false
section
variable {w w' : World} {g : Nat} {y m d : Int}
theorem DatAt.lt (h : DatAt w g y m d) : g < w.heap.size := World.block_lt_of_cell? w _ h.1
theorem DatAt.keep (h : DatAt w g y m d) (hk : w'.heap[g]? = w.heap[g]?) : DatAt w' g y m d := by
  have hc : ∀ o, w'.cell? ⟨g, o, none⟩ = w.cell? ⟨g, o, none⟩ := fun o => World.cell?_of_block (w := w) hk
  have hf : ∀ o, w'.frozen? ⟨g, o, none⟩ = w.frozen? ⟨g, o, none⟩ := fun o => World.frozen?_of_block (w := w) hk
  obtain ⟨h0, h1, h2, h3⟩ := h
  exact ⟨(hc 0).trans h0, (hc 1).trans h1, (hc 2).trans h2, fun o => (hf o).trans (h3 o)⟩
theorem DatAt.call (h : DatAt w g y m d) (hb : Below w.heap.size w w') : DatAt w' g y m d := h.keep (hb.block g h.lt)
theorem DatAt.drewN (h : DatAt w g y m d) (n : Nat) : DatAt (w.drewN n) g y m d := h
theorem DatAt.alloc (h : DatAt w g y m d) (o : Obj) : DatAt (w.alloc o) g y m d := h.keep (Below.heap_alloc w o g h.lt)
theorem DatAt.far (h : DatAt w g y m d) {p : Addr} (hp : p.block ≠ g) (u : Value) : DatAt (w.setCell p u) g y m d := h.keep (Below.heap_setCell w p u g (fun e => hp e.symm))
theorem DatAt.set0 (h : DatAt w g y m d) (v : Int) : DatAt (w.setCell ⟨g, 0, none⟩ (.int .i64 v)) g v m d :=
  ⟨World.cell?_setCell_same _ _ _ h.1, (World.cell?_setCell_other _ _ _ _ (by simp)).trans h.2.1, (World.cell?_setCell_other _ _ _ _ (by simp)).trans h.2.2.1, fun o => by rw [World.frozen?_setCell]; exact h.2.2.2 o⟩
theorem DatAt.set1 (h : DatAt w g y m d) (v : Int) : DatAt (w.setCell ⟨g, 1, none⟩ (.int .i64 v)) g y v d :=
  ⟨(World.cell?_setCell_other _ _ _ _ (by simp)).trans h.1, World.cell?_setCell_same _ _ _ h.2.1, (World.cell?_setCell_other _ _ _ _ (by simp)).trans h.2.2.1, fun o => by rw [World.frozen?_setCell]; exact h.2.2.2 o⟩
theorem DatAt.set2 (h : DatAt w g y m d) (v : Int) : DatAt (w.setCell ⟨g, 2, none⟩ (.int .i64 v)) g y m v :=
  ⟨(World.cell?_setCell_other _ _ _ _ (by simp)).trans h.1, (World.cell?_setCell_other _ _ _ _ (by simp)).trans h.2.1, World.cell?_setCell_same _ _ _ h.2.2.1, fun o => by rw [World.frozen?_setCell]; exact h.2.2.2 o⟩
theorem dat_new (w : World) (t : TypeId) (y m d : Int) : DatAt (w.alloc (.cells #[.int .i64 y, .int .i64 m, .int .i64 d] t)) w.heap.size y m d := ⟨by simp [go_sem], by simp [go_sem], by simp [go_sem], fun o => by simp [go_sem]⟩
end
/-- the world of a walk through the next day: the date in block B, the result behind it -/
structure DW (w W : World) (y m d : Int) : Prop where
  dt : DatAt W w.heap.size y m d
  rs : DatAt W (w.heap.size + 1) 0 0 0
  bl : Below w.heap.size w W
theorem DW.drewN {w W : World} {y m d : Int} (h : DW w W y m d) (n : Nat) : DW w (W.drewN n) y m d := ⟨h.dt, h.rs, below_drewN h.bl n⟩
theorem DW.set0 {w W : World} {y m d : Int} (h : DW w W y m d) (v : Int) : DW w (W.setCell ⟨w.heap.size, 0, none⟩ (.int .i64 v)) v m d := ⟨h.dt.set0 v, h.rs.far (by simp) _, h.bl.setCell (Nat.le_refl _) _⟩
theorem DW.set1 {w W : World} {y m d : Int} (h : DW w W y m d) (v : Int) : DW w (W.setCell ⟨w.heap.size, 1, none⟩ (.int .i64 v)) y v d := ⟨h.dt.set1 v, h.rs.far (by simp) _, h.bl.setCell (Nat.le_refl _) _⟩
theorem DW.set2 {w W : World} {y m d : Int} (h : DW w W y m d) (v : Int) : DW w (W.setCell ⟨w.heap.size, 2, none⟩ (.int .i64 v)) y m v := ⟨h.dt.set2 v, h.rs.far (by simp) _, h.bl.setCell (Nat.le_refl _) _⟩
theorem DW.start (w : World) (t : TypeId) (y m d : Int) : DW w ((w.alloc (.cells #[.int .i64 y, .int .i64 m, .int .i64 d] t)).alloc (.cells #[.int .i64 0, .int .i64 0, .int .i64 0] t)) y m d :=
  ⟨(dat_new w t y m d).alloc _, by have := dat_new (w.alloc (.cells #[.int .i64 y, .int .i64 m, .int .i64 d] t)) t 0 0 0; simpa using this, ((Below.refl w.heap.size w).alloc (Nat.le_refl _) _).alloc (by simp) _⟩
theorem below_rs {w W : World} (h : Below w.heap.size w W) {a b c : Value} : Below w.heap.size w (((W.setCell ⟨w.heap.size + 1, 0, none⟩ a).setCell ⟨w.heap.size + 1, 1, none⟩ b).setCell ⟨w.heap.size + 1, 2, none⟩ c) := ((h.setCell (by simp) _).setCell (by simp) _).setCell (by simp) _
set_option maxHeartbeats 4000000 in
theorem l18Next_any (g : Nat) (nm : ByteArray) (A A' : Option Addr) (n n' c c' B : Nat) (ms : List Mth) (rs : List Rul) (we y m d : Int) (w : World) (hC : CalAt w g nm A A' n n' c c' we) (h : Months w B A n ms) (h' : Rules w B A' n' rs) (hB : B ≤ w.heap.size) (hn : n ≤ 1048576) (hn' : n' ≤ 9223372036854775807) (hev : ∀ j, j < n' → 1 ≤ (rs.getD j r0).ev) (hy0 : 0 ≤ y) (hy1 : y ≤ 9999) (hm1 : 1 ≤ m) (hm2 : m ≤ n) (hd1 : 1 ≤ d) (hd2 : d ≤ 60) :
    Calls Try.prog 71 #[.pointer (some ⟨g, 0, none⟩), .agg #[.int .i64 y, .int .i64 m, .int .i64 d]] w fun e w' => e = .returned (.tuple #[.agg #[.int .i64 (nextY n (dayK ms rs n' y m) y m d), .int .i64 (nextM n (dayK ms rs n' y m) m d), .int .i64 (nextD (dayK ms rs n' y m) d)], .bool (inB (nextY n (dayK ms rs n' y m) y m d) 0 9999)]) ∧ Below w.heap.size w w' := by
  have H := Lib.hid (Tri.more h hB)
  have H' := Lib.hid (Tri.more h' hB)
  have HC := Lib.hid hC
  have cD := fun (W : World) (hb : Below w.heap.size w W) (i : Int) (hi : i = m - 1) => l15Days_any g A A' n n' c c' w.heap.size ms rs y i m W (Nat.lt_of_lt_of_le hC.lt hb.size) (HC.out.below hC.lt hb).c1 (HC.out.below hC.lt hb).c2 (Tri.below H.out hb) (Tri.below H'.out hb) hb.size (by omega) hn' hev hy0 (by omega) hi hm1 hm2
  generalize dayK ms rs n' y m = D0 at *
  have CD := Lib.hid cD
  have s1 : IntKind.i64.wrap (m - 1) = m - 1 := IntWalk.i64_in _ (by omega)
  have zg := hC.lt
  clear h h' hev cD hC
  by_cases h1 : D0 < d + 1
  · by_cases h2 : (n : Int) < m + 1
    · have e1 : nextY n D0 y m d = y + 1 := by rw [nextY, if_pos h1, if_pos h2]
      have e2 : nextM n D0 m d = 1 := by rw [nextM, if_pos h1, if_pos h2]
      have e3 : nextD D0 d = 1 := by rw [nextD, if_pos h1]
      rw [e1, e2, e3]
      obtain ⟨v, hv⟩ : ∃ v, inB (y + 1) 0 9999 = v := ⟨_, rfl⟩
      rw [hv]
      have Y := Lib.hid hv
      clear e1 e2 e3 hv
      go_enter Try.func71, Try.ntmps71
      go_wp2
      obtain ⟨W0, hW0⟩ : ∃ W, ((w.alloc (.cells #[.int .i64 y, .int .i64 m, .int .i64 (d + 1)] 53)).alloc (.cells #[.int .i64 0, .int .i64 0, .int .i64 0] 53)) = W := ⟨_, rfl⟩
      have D0' := hW0 ▸ DW.start w 53 y m (d + 1)
      rw [hW0]
      clear hW0
      have b0 := D0'.dt.1
      have b1 := D0'.dt.2.1
      have b2 := D0'.dt.2.2.1
      have b3 := D0'.dt.2.2.2 0
      have b4 := D0'.dt.2.2.2 1
      have b5 := D0'.dt.2.2.2 2
      have b6 := (HC.out.below zg D0'.bl).c1
      have BL := D0'.bl
      go_quiet ((go_at_call 93; refine quiet_on (CD.out _ (below_drewN BL _) _ (by first | rfl | simp [s1])); done))
      clear b0 b1 b2 b3 b4 b5 b6 BL
      obtain ⟨W1, hW1⟩ : ∃ W, W0.drewN nq = W := ⟨_, rfl⟩
      have D1 := hW1 ▸ D0'.drewN nq
      rw [hW1]
      clear hW1 D0'
      have b0 := D1.dt.1
      have b1 := D1.dt.2.1
      have b2 := D1.dt.2.2.1
      have b3 := D1.dt.2.2.2 0
      have b4 := D1.dt.2.2.2 1
      have b5 := D1.dt.2.2.2 2
      have b6 := (HC.out.below zg D1.bl).c1
      have BL := D1.bl
      go_wp2
      clear b0 b1 b2 b3 b4 b5 b6 BL
      obtain ⟨W2, hW2⟩ : ∃ W, (W1.setCell ⟨w.heap.size, 2, none⟩ (.int .i64 1)).setCell ⟨w.heap.size, 1, none⟩ (.int .i64 (m + 1)) = W := ⟨_, rfl⟩
      have D2 := hW2 ▸ (D1.set2 1).set1 (m + 1)
      rw [hW2]
      clear hW2 D1
      have b0 := D2.dt.1
      have b1 := D2.dt.2.1
      have b2 := D2.dt.2.2.1
      have b3 := D2.dt.2.2.2 0
      have b4 := D2.dt.2.2.2 1
      have b5 := D2.dt.2.2.2 2
      have b6 := (HC.out.below zg D2.bl).c1
      have BL := D2.bl
      go_quiet (fail)
      clear b0 b1 b2 b3 b4 b5 b6 BL
      obtain ⟨W3, hW3⟩ : ∃ W, W2.drewN nq = W := ⟨_, rfl⟩
      have D3 := hW3 ▸ D2.drewN nq
      rw [hW3]
      clear hW3 D2
      have b0 := D3.dt.1
      have b1 := D3.dt.2.1
      have b2 := D3.dt.2.2.1
      have b3 := D3.dt.2.2.2 0
      have b4 := D3.dt.2.2.2 1
      have b5 := D3.dt.2.2.2 2
      have b6 := (HC.out.below zg D3.bl).c1
      have BL := D3.bl
      go_wp2
      clear b0 b1 b2 b3 b4 b5 b6 BL
      obtain ⟨W4, hW4⟩ : ∃ W, (W3.setCell ⟨w.heap.size, 1, none⟩ (.int .i64 1)).setCell ⟨w.heap.size, 0, none⟩ (.int .i64 (y + 1)) = W := ⟨_, rfl⟩
      have D4 := hW4 ▸ (D3.set1 1).set0 (y + 1)
      rw [hW4]
      clear hW4 D3
      have b0 := D4.dt.1
      have b1 := D4.dt.2.1
      have b2 := D4.dt.2.2.1
      have b3 := D4.dt.2.2.2 0
      have b4 := D4.dt.2.2.2 1
      have b5 := D4.dt.2.2.2 2
      have b6 := (HC.out.below zg D4.bl).c1
      have BL := D4.bl
      have r0 := D4.rs.1
      have r1 := D4.rs.2.1
      have r2 := D4.rs.2.2.1
      have r3 := D4.rs.2.2.2 0
      have r4 := D4.rs.2.2.2 1
      have r5 := D4.rs.2.2.2 2
      go_region_with (first | (go_at_call 52; refine (l15Year_val _ _ _ Y.out).mono ?_; rintro e w5 ⟨rfl, rfl⟩))
      all_goals
        go_wp2
        refine bodyPost_ret (v := .tuple #[.agg #[.int .i64 (y + 1), .int .i64 (1), .int .i64 (1)], .bool v]) ?_ rfl ⟨rfl, ?_⟩
        · simp [results, Try.results71, go_sem, *]
        · first | exact below_rs (Below.drew BL) | exact below_rs BL
    · have e1 : nextY n D0 y m d = y := by rw [nextY, if_pos h1, if_neg h2]
      have e2 : nextM n D0 m d = m + 1 := by rw [nextM, if_pos h1, if_neg h2]
      have e3 : nextD D0 d = 1 := by rw [nextD, if_pos h1]
      rw [e1, e2, e3]
      obtain ⟨v, hv⟩ : ∃ v, inB (y) 0 9999 = v := ⟨_, rfl⟩
      rw [hv]
      have Y := Lib.hid hv
      clear e1 e2 e3 hv
      go_enter Try.func71, Try.ntmps71
      go_wp2
      obtain ⟨W0, hW0⟩ : ∃ W, ((w.alloc (.cells #[.int .i64 y, .int .i64 m, .int .i64 (d + 1)] 53)).alloc (.cells #[.int .i64 0, .int .i64 0, .int .i64 0] 53)) = W := ⟨_, rfl⟩
      have D0' := hW0 ▸ DW.start w 53 y m (d + 1)
      rw [hW0]
      clear hW0
      have b0 := D0'.dt.1
      have b1 := D0'.dt.2.1
      have b2 := D0'.dt.2.2.1
      have b3 := D0'.dt.2.2.2 0
      have b4 := D0'.dt.2.2.2 1
      have b5 := D0'.dt.2.2.2 2
      have b6 := (HC.out.below zg D0'.bl).c1
      have BL := D0'.bl
      go_quiet ((go_at_call 93; refine quiet_on (CD.out _ (below_drewN BL _) _ (by first | rfl | simp [s1])); done))
      clear b0 b1 b2 b3 b4 b5 b6 BL
      obtain ⟨W1, hW1⟩ : ∃ W, W0.drewN nq = W := ⟨_, rfl⟩
      have D1 := hW1 ▸ D0'.drewN nq
      rw [hW1]
      clear hW1 D0'
      have b0 := D1.dt.1
      have b1 := D1.dt.2.1
      have b2 := D1.dt.2.2.1
      have b3 := D1.dt.2.2.2 0
      have b4 := D1.dt.2.2.2 1
      have b5 := D1.dt.2.2.2 2
      have b6 := (HC.out.below zg D1.bl).c1
      have BL := D1.bl
      go_wp2
      clear b0 b1 b2 b3 b4 b5 b6 BL
      obtain ⟨W2, hW2⟩ : ∃ W, (W1.setCell ⟨w.heap.size, 2, none⟩ (.int .i64 1)).setCell ⟨w.heap.size, 1, none⟩ (.int .i64 (m + 1)) = W := ⟨_, rfl⟩
      have D2 := hW2 ▸ (D1.set2 1).set1 (m + 1)
      rw [hW2]
      clear hW2 D1
      have b0 := D2.dt.1
      have b1 := D2.dt.2.1
      have b2 := D2.dt.2.2.1
      have b3 := D2.dt.2.2.2 0
      have b4 := D2.dt.2.2.2 1
      have b5 := D2.dt.2.2.2 2
      have b6 := (HC.out.below zg D2.bl).c1
      have BL := D2.bl
      go_quiet (fail)
      clear b0 b1 b2 b3 b4 b5 b6 BL
      obtain ⟨W3, hW3⟩ : ∃ W, W2.drewN nq = W := ⟨_, rfl⟩
      have D3 := hW3 ▸ D2.drewN nq
      rw [hW3]
      clear hW3 D2
      have b0 := D3.dt.1
      have b1 := D3.dt.2.1
      have b2 := D3.dt.2.2.1
      have b3 := D3.dt.2.2.2 0
      have b4 := D3.dt.2.2.2 1
      have b5 := D3.dt.2.2.2 2
      have b6 := (HC.out.below zg D3.bl).c1
      have BL := D3.bl
      go_wp2
      clear b0 b1 b2 b3 b4 b5 b6 BL
      obtain ⟨W4, hW4⟩ : ∃ W, W3 = W := ⟨_, rfl⟩
      have D4 := hW4 ▸ D3
      rw [hW4]
      clear hW4 D3
      have b0 := D4.dt.1
      have b1 := D4.dt.2.1
      have b2 := D4.dt.2.2.1
      have b3 := D4.dt.2.2.2 0
      have b4 := D4.dt.2.2.2 1
      have b5 := D4.dt.2.2.2 2
      have b6 := (HC.out.below zg D4.bl).c1
      have BL := D4.bl
      have r0 := D4.rs.1
      have r1 := D4.rs.2.1
      have r2 := D4.rs.2.2.1
      have r3 := D4.rs.2.2.2 0
      have r4 := D4.rs.2.2.2 1
      have r5 := D4.rs.2.2.2 2
      go_region_with (first | (go_at_call 52; refine (l15Year_val _ _ _ Y.out).mono ?_; rintro e w5 ⟨rfl, rfl⟩))
      all_goals
        go_wp2
        refine bodyPost_ret (v := .tuple #[.agg #[.int .i64 (y), .int .i64 (m + 1), .int .i64 (1)], .bool v]) ?_ rfl ⟨rfl, ?_⟩
        · simp [results, Try.results71, go_sem, *]
        · first | exact below_rs (Below.drew BL) | exact below_rs BL
  · have e1 : nextY n D0 y m d = y := by rw [nextY, if_neg h1]
    have e2 : nextM n D0 m d = m := by rw [nextM, if_neg h1]
    have e3 : nextD D0 d = d + 1 := by rw [nextD, if_neg h1]
    rw [e1, e2, e3]
    obtain ⟨v, hv⟩ : ∃ v, inB (y) 0 9999 = v := ⟨_, rfl⟩
    rw [hv]
    have Y := Lib.hid hv
    clear e1 e2 e3 hv
    go_enter Try.func71, Try.ntmps71
    go_wp2
    obtain ⟨W0, hW0⟩ : ∃ W, ((w.alloc (.cells #[.int .i64 y, .int .i64 m, .int .i64 (d + 1)] 53)).alloc (.cells #[.int .i64 0, .int .i64 0, .int .i64 0] 53)) = W := ⟨_, rfl⟩
    have D0' := hW0 ▸ DW.start w 53 y m (d + 1)
    rw [hW0]
    clear hW0
    have b0 := D0'.dt.1
    have b1 := D0'.dt.2.1
    have b2 := D0'.dt.2.2.1
    have b3 := D0'.dt.2.2.2 0
    have b4 := D0'.dt.2.2.2 1
    have b5 := D0'.dt.2.2.2 2
    have b6 := (HC.out.below zg D0'.bl).c1
    have BL := D0'.bl
    go_quiet ((go_at_call 93; refine quiet_on (CD.out _ (below_drewN BL _) _ (by first | rfl | simp [s1])); done))
    clear b0 b1 b2 b3 b4 b5 b6 BL
    obtain ⟨W1, hW1⟩ : ∃ W, W0.drewN nq = W := ⟨_, rfl⟩
    have D1 := hW1 ▸ D0'.drewN nq
    rw [hW1]
    clear hW1 D0'
    have b0 := D1.dt.1
    have b1 := D1.dt.2.1
    have b2 := D1.dt.2.2.1
    have b3 := D1.dt.2.2.2 0
    have b4 := D1.dt.2.2.2 1
    have b5 := D1.dt.2.2.2 2
    have b6 := (HC.out.below zg D1.bl).c1
    have BL := D1.bl
    go_wp2
    clear b0 b1 b2 b3 b4 b5 b6 BL
    obtain ⟨W2, hW2⟩ : ∃ W, W1 = W := ⟨_, rfl⟩
    have D2 := hW2 ▸ D1
    rw [hW2]
    clear hW2 D1
    have b0 := D2.dt.1
    have b1 := D2.dt.2.1
    have b2 := D2.dt.2.2.1
    have b3 := D2.dt.2.2.2 0
    have b4 := D2.dt.2.2.2 1
    have b5 := D2.dt.2.2.2 2
    have b6 := (HC.out.below zg D2.bl).c1
    have BL := D2.bl
    go_quiet (fail)
    clear b0 b1 b2 b3 b4 b5 b6 BL
    obtain ⟨W3, hW3⟩ : ∃ W, W2.drewN nq = W := ⟨_, rfl⟩
    have D3 := hW3 ▸ D2.drewN nq
    rw [hW3]
    clear hW3 D2
    have b0 := D3.dt.1
    have b1 := D3.dt.2.1
    have b2 := D3.dt.2.2.1
    have b3 := D3.dt.2.2.2 0
    have b4 := D3.dt.2.2.2 1
    have b5 := D3.dt.2.2.2 2
    have b6 := (HC.out.below zg D3.bl).c1
    have BL := D3.bl
    go_wp2
    clear b0 b1 b2 b3 b4 b5 b6 BL
    obtain ⟨W4, hW4⟩ : ∃ W, W3 = W := ⟨_, rfl⟩
    have D4 := hW4 ▸ D3
    rw [hW4]
    clear hW4 D3
    have b0 := D4.dt.1
    have b1 := D4.dt.2.1
    have b2 := D4.dt.2.2.1
    have b3 := D4.dt.2.2.2 0
    have b4 := D4.dt.2.2.2 1
    have b5 := D4.dt.2.2.2 2
    have b6 := (HC.out.below zg D4.bl).c1
    have BL := D4.bl
    have r0 := D4.rs.1
    have r1 := D4.rs.2.1
    have r2 := D4.rs.2.2.1
    have r3 := D4.rs.2.2.2 0
    have r4 := D4.rs.2.2.2 1
    have r5 := D4.rs.2.2.2 2
    go_region_with (first | (go_at_call 52; refine (l15Year_val _ _ _ Y.out).mono ?_; rintro e w5 ⟨rfl, rfl⟩))
    all_goals
      go_wp2
      refine bodyPost_ret (v := .tuple #[.agg #[.int .i64 (y), .int .i64 (m), .int .i64 (d + 1)], .bool v]) ?_ rfl ⟨rfl, ?_⟩
      · simp [results, Try.results71, go_sem, *]
      · first | exact below_rs (Below.drew BL) | exact below_rs BL
end Go.Proofs.Ytbmiamfgdjiodaa
