/- Contracts of the program's and the reference's functions, several texts in one; what each says, and its conditions, stands at its head. -/
import Derived.Test.YtmbdedkelckedaaCore6
import Derived.Deep.DeepCutAuto
import Derived.StillTailTactics
import Derived.Test.YtmbdedkelckedaaCore1
import Derived.Lib.ItoaNum
import Derived.Laws.IdiomStrings
import Derived.Lib.SmallJoins
/- The reference's l17Month: a month of a year as a cam shows it. No conditions but those of a calendar and a cam that belong to one another. -/
namespace Go.Proofs.Ytmbdedkelckedaa
open Go.RowKit
set_option linter.unusedVariables false
set_option linter.unusedSimpArgs false
/-- the fault whose cells lie in block g -/
def FltAt (w : World) (g : Nat) (a b c d : Int) : Prop :=
  w.cell? ⟨g, 0, none⟩ = some (.int .i64 a) ∧ w.cell? ⟨g, 1, none⟩ = some (.int .i64 b) ∧ w.cell? ⟨g, 2, none⟩ = some (.int .i64 c) ∧ w.cell? ⟨g, 3, none⟩ = some (.int .i64 d) ∧ ∀ o, w.frozen? ⟨g, o, none⟩ = false
section
variable {w w' : World} {g : Nat} {a b c d : Int}
theorem FltAt.lt (h : FltAt w g a b c d) : g < w.heap.size := World.block_lt_of_cell? w _ h.1
theorem FltAt.keep (h : FltAt w g a b c d) (hk : w'.heap[g]? = w.heap[g]?) : FltAt w' g a b c d := by
  have hc : ∀ o, w'.cell? ⟨g, o, none⟩ = w.cell? ⟨g, o, none⟩ := fun o => World.cell?_of_block (w := w) hk
  have hf : ∀ o, w'.frozen? ⟨g, o, none⟩ = w.frozen? ⟨g, o, none⟩ := fun o => World.frozen?_of_block (w := w) hk
  obtain ⟨h0, h1, h2, h3, h4⟩ := h
  exact ⟨(hc 0).trans h0, (hc 1).trans h1, (hc 2).trans h2, (hc 3).trans h3, fun o => (hf o).trans (h4 o)⟩
theorem FltAt.call (h : FltAt w g a b c d) (hb : Below w.heap.size w w') : FltAt w' g a b c d := h.keep (hb.block g h.lt)
theorem FltAt.far (h : FltAt w g a b c d) {p : Addr} (hp : p.block ≠ g) (u : Value) : FltAt (w.setCell p u) g a b c d := h.keep (Below.heap_setCell w p u g (fun e => hp e.symm))
theorem FltAt.set2 (h : FltAt w g a b c d) (v : Int) : FltAt (w.setCell ⟨g, 2, none⟩ (.int .i64 v)) g a b v d := by
  obtain ⟨h0, h1, h2, h3, h4⟩ := h
  refine ⟨?_, ?_, ?_, ?_, fun o => by simp [h4 o]⟩ <;> simp [go_sem, h0, h1, h2, h3]
theorem flt_new (w : World) (t : TypeId) (a b c d : Int) : FltAt (w.alloc (.cells #[.int .i64 a, .int .i64 b, .int .i64 c, .int .i64 d] t)) w.heap.size a b c d := ⟨by simp [go_sem], by simp [go_sem], by simp [go_sem], by simp [go_sem], fun o => by simp [go_sem]⟩
end
set_option maxRecDepth 8000 in
set_option maxHeartbeats 4000000 in
theorem l17Month_any (g : Nat) (nm : ByteArray) (A A' L : Option Addr) (n n' c c' l e B : Nat) (ms : List Mth) (rs : List Rul) (cw : Int) (zs : List Int) (y k : Nat) (w : World) (hC : CalAt w g nm A A' n n' c c' cw) (h : Months w B A n ms) (h' : Rules w B A' n' rs) (hI : Ints w B L l zs) (hB : B ≤ w.heap.size) (hn1 : 1 ≤ n) (hn : n ≤ 20) (hn' : n' ≤ 1048576) (hl1 : 1 ≤ l) (hl : l ≤ 260) (k3 : l % n = 0) (hev : ∀ j, j < n' → 1 ≤ (rs.getD j r0).ev) (hy : y ≤ 1000000000) (hk : k < n) :
    Calls Try.prog 123 #[.pointer (some ⟨g, 0, none⟩), .slice L l e, .int .i64 (y : Int), .int .i64 (k : Int)] w fun e w' => e = .returned (.tuple #[.agg #[.int .i64 (y : Int), .int .i64 ((k : Int) + 1), .int .i64 (zs.getD (placeY l n y + k) 0), .int .i64 (dayK ms rs n' (y : Int) ((k : Int) + 1))], .bool (zs.getD (placeY l n y + k) 0 != dayK ms rs n' (y : Int) ((k : Int) + 1))]) ∧ Below w.heap.size w w' := by
  have H := Lib.hid (Tri.more h hB)
  have H' := Lib.hid (Tri.more h' hB)
  have HI := Lib.hid (hI.more hB)
  have HC := Lib.hid hC
  have zg := hC.lt
  have q1 := hC.c1
  obtain ⟨b1, b2, b3⟩ := place_bd (y := y) k3 hl1 hn1
  obtain ⟨bl, offl, rfl, hbl, hcl⟩ := (hI.more hB).at_ (k := placeY l n y + k) (by omega)
  have cD := fun (W : World) (hb : Below w.heap.size w W) => l15Days_k g A A' n n' c c' w.heap.size k ms rs (y : Int) W (Nat.lt_of_lt_of_le zg hb.size) (HC.out.below zg hb).c1 (HC.out.below zg hb).c2 (Tri.below H.out hb) (Tri.below H'.out hb) hb.size (by omega) (by omega) hev (by omega) (by omega) hk
  have t1 := nat_tdiv l n
  have t2 := nat_tmod y (l / n)
  have hP : ((y % (l / n) : Nat) : Int) * (n : Int) = ((placeY l n y : Nat) : Int) := by unfold placeY; push_cast; rfl
  have hqz : l / n ≤ l := Nat.div_le_self l n
  have hR0 : y % (l / n) ≤ y := Nat.mod_le _ _
  generalize placeY l n y = P at *
  generalize hRQ : y % (l / n) = R at *
  generalize l / n = Q at *
  have e4 : ¬ (Q = 0) := by omega
  have e5 : ¬ (n = 0) := by omega
  generalize zs.getD (P + k) 0 = x at *
  generalize dayK ms rs n' (y : Int) ((k : Int) + 1) = D at *
  have CD := Lib.hid cD
  have e0 : ¬ ((n : Int) = 0) := by omega
  have e1 : ((n : Int) == 0) = false := by rw [beq_eq_false_iff_ne]; omega
  have e2 : ¬ ((Q : Int) = 0) := by omega
  have e3 : ((Q : Int) == 0) = false := by rw [beq_eq_false_iff_ne]; omega
  have s1 : IntKind.i64.wrap (Q : Int) = (Q : Int) := IntWalk.i64_in _ (by omega)
  have s2 : IntKind.i64.wrap (R : Int) = (R : Int) := IntWalk.i64_in _ (by omega)
  have s3 : IntKind.i64.wrap ((R : Int) * (n : Int)) = (P : Int) := by rw [hP]; exact IntWalk.i64_in _ (by omega)
  have s8 : IntKind.i64.wrap (P : Int) = (P : Int) := IntWalk.i64_in _ (by omega)
  have s4 : IntKind.i64.wrap ((P : Int) + (k : Int)) = (P : Int) + (k : Int) := IntWalk.i64_in _ (by omega)
  have s5 : (0 : Int) ≤ (P : Int) + (k : Int) := by omega
  have s6 : (P : Int) + (k : Int) < (l : Int) := by omega
  have s7 : ((P : Int) + (k : Int)).toNat = P + k := by omega
  obtain ⟨bb, hbb⟩ : ∃ bb, (x != D) = bb := ⟨_, rfl⟩
  rw [hbb]
  have k0 : (0 : Int) ≤ (k : Int) := by omega
  have hcx := hcl
  clear h h' hI hC hev cD hcl
  go_enter Try.func123, Try.ntmps123
  go_upto_region 2 with fail
  go_wp2_with fail
  go_at_call 55
  refine (CD.out _ (by (repeat (first | with_reducible exact Below.refl _ _ | with_reducible refine below_alloc ?_ _ | with_reducible refine below_drewN ?_ _ | with_reducible refine Below.drew ?_ | ((with_reducible refine below_set ?_ ?_ _); rotate_left; (focus (first | (simp; done) | (simp; omega) | omega))) | with_reducible refine below_call ?_ (by assumption))))).mono ?_
  rintro e1 w2 ⟨rfl, nq, rfl⟩
  go_upto_region 3 with fail
  obtain ⟨W1, hW1⟩ : ∃ W, (((w.alloc (.cells #[.int .i64 0, .int .i64 0, .int .i64 0, .int .i64 0] 51)).drewN nq).alloc (.cells #[.int .i64 (y : Int), .int .i64 ((k : Int) + 1), .int .i64 0, .int .i64 D] 51)) = W := ⟨_, rfl⟩
  have F1 := Lib.hid (hW1 ▸ flt_new ((w.alloc (.cells #[.int .i64 0, .int .i64 0, .int .i64 0, .int .i64 0] 51)).drewN nq) 51 (y : Int) ((k : Int) + 1) 0 D)
  have F0 := Lib.hid (hW1 ▸ (show FltAt ((w.alloc (.cells #[.int .i64 0, .int .i64 0, .int .i64 0, .int .i64 0] 51)).drewN nq) w.heap.size 0 0 0 0 from flt_new w 51 0 0 0 0).call (alb' _ (.cells #[.int .i64 (y : Int), .int .i64 ((k : Int) + 1), .int .i64 0, .int .i64 D] 51)))
  have BL : Below w.heap.size w W1 := by rw [← hW1]; (repeat (first | with_reducible exact Below.refl _ _ | with_reducible refine below_alloc ?_ _ | with_reducible refine below_drewN ?_ _ | with_reducible refine Below.drew ?_ | ((with_reducible refine below_set ?_ ?_ _); rotate_left; (focus (first | (simp; done) | (simp; omega) | omega))) | with_reducible refine below_call ?_ (by assumption)))
  have zE : ((w.alloc (.cells #[.int .i64 0, .int .i64 0, .int .i64 0, .int .i64 0] 51)).drewN nq).heap.size = w.heap.size + 1 := by simp
  rw [zE] at F1
  rw [hW1]
  clear hW1 zE
  have u1 := (HC.out.below zg BL).c1
  have hx := (BL.cell (p := ⟨bl, offl + (P + k), none⟩) hbl).trans hcx
  obtain ⟨f10, f11, f12, f13, f1f⟩ := F1.out
  have f1f2 := f1f 2
  clear hcx f1f
  go_cut [11] (fun p wx => p = .pointer (some ⟨w.heap.size + 1, 0, none⟩) ∧ Hid (FltAt wx (w.heap.size + 1) (y : Int) ((k : Int) + 1) x D) ∧ Hid (FltAt wx w.heap.size 0 0 0 0) ∧ Hid (Below w.heap.size w wx))
  case first =>
    refine wp_region_still_tail 14 (by kernel_rfl) (by kernel_rfl) ?_
    simp only [List.take_succ_cons, List.take_zero, List.drop_succ_cons, List.drop_zero]
    repeat still_step
    refine wpStill_nil ?_
    change wpList _ _ _ _ _ W1.drew
    have k2 : W1.drew.cell? ⟨w.heap.size + 1, 2, none⟩ = some (.int .i64 0) := f12
    have k3 : W1.drew.frozen? ⟨w.heap.size + 1, 2, none⟩ = false := f1f2
    go_wp2_with fail
    go_meet
    exact ⟨rfl, Lib.hid ((show FltAt W1.drew (w.heap.size + 1) (y : Int) ((k : Int) + 1) 0 D from F1.out).set2 x), Lib.hid ((show FltAt W1.drew w.heap.size 0 0 0 0 from F0.out).far (by simp) _), Lib.hid ((Below.drew BL).setCell (by simp) _)⟩
  case rest =>
    obtain ⟨rfl, F2, F3, B2⟩ := hcut
    clear f10 f11 f12 f13 f1f2 u1 hx F0 F1
    obtain ⟨f10, f11, f12, f13, -⟩ := F2.out
    obtain ⟨f20, f21, f22, f23, f2f⟩ := F3.out
    have f30 := f2f 0
    have f31 := f2f 1
    have f32 := f2f 2
    have f33 := f2f 3
    clear f2f
    go_wp2_with fail
    go_region
    all_goals
      go_wp2
      refine bodyPost_ret (v := .tuple #[.agg #[.int .i64 (y : Int), .int .i64 ((k : Int) + 1), .int .i64 x, .int .i64 D], .bool bb]) ?_ rfl ⟨rfl, ?_⟩
      · simp [results, Try.results123, go_sem, *]
      · have hB2 := Below.drew B2.out
        exact (((hB2.setCell (Nat.le_refl _) _).setCell (Nat.le_refl _) _).setCell (Nat.le_refl _) _).setCell (Nat.le_refl _) _
end Go.Proofs.Ytmbdedkelckedaa

/- Contract of the reference's BestCam. No conditions but that there are at most 2^20 months and rules. -/
namespace Go.Proofs.Ytmbdedkelckedaa
open Go.RowKit
set_option linter.unusedVariables false
set_option linter.unusedSimpArgs false
/-- a call gives a new cam, its number of faults and a code -/
def NewBC (w : World) (R : List Int × Int × Int) (e : Ending) (w' : World) : Prop := ∃ A m c, e = .returned (.tuple #[.slice A m c, .int .i64 R.2.1, .int .i64 R.2.2]) ∧ Own w' w.heap.size A m c R.1 ∧ Below w.heap.size w w'
theorem newBC_bad {w w' : World} {v : Int} (h : Below w.heap.size w w') : NewBC w ([], 0, v) (.returned (.tuple #[.slice none 0 0, .int .i64 0, .int .i64 v])) w' := ⟨none, 0, 0, rfl, Own.nil_, h⟩
theorem turn_lt {p s j q : Nat} (hp : p < s) : p + j * s < q * s ↔ j < q := by
  constructor
  · intro h
    rcases Nat.lt_or_ge j q with h2 | h2
    · exact h2
    · have := Nat.mul_le_mul_right s h2; omega
  · intro h
    have := Nat.mul_le_mul_right s (show j + 1 ≤ q from h)
    rw [Nat.add_mul, Nat.one_mul] at this; omega
set_option maxHeartbeats 400000 in
theorem l00Min_any (a b : Int) (w : World) : Calls Try.prog 122 #[.int .i64 a, .int .i64 b] w fun e w' => e = .returned (.int .i64 (if a < b then a else b)) ∧ w = w' := by
  by_cases h : a < b
  · rw [if_pos h]
    go_enter Try.func122, Try.ntmps122
    go_wp2
    go_ret
    exact ⟨rfl, rfl⟩
  · rw [if_neg h]
    go_enter Try.func122, Try.ntmps122
    go_wp2
    go_ret
    exact ⟨rfl, rfl⟩
theorem l00Min_val (a b v : Int) (h : (if a < b then a else b) = v) (w : World) : Calls Try.prog 122 #[.int .i64 a, .int .i64 b] w fun e w' => e = .returned (.int .i64 v) ∧ w = w' := by rw [← h]; exact l00Min_any a b w
set_option maxHeartbeats 4000000 in
theorem l17Notch_any (g : Nat) (nm : ByteArray) (A A' : Option Addr) (n n' c c' B : Nat) (ms : List Mth) (rs : List Rul) (cw : Int) (p s q k : Nat) (w : World) (hC : CalAt w g nm A A' n n' c c' cw) (h : Months w B A n ms) (h' : Rules w B A' n' rs) (hB : B ≤ w.heap.size) (hn' : n' ≤ 1048576) (hev : ∀ j, j < n' → 1 ≤ (rs.getD j r0).ev) (hp : p < s) (hs : s ≤ 260) (hq : q * s ≤ 520000) (hk : k < n) (hkn : n ≤ 1048576) :
    Calls Try.prog 97 #[.pointer (some ⟨g, 0, none⟩), .int .i64 (p : Int), .int .i64 (s : Int), .int .i64 ((q * s : Nat) : Int), .int .i64 (k : Int)] w fun e w' => e = .returned (.int .i64 (bestN (cnt (isL rs n') s p (q * s)) (cnt (fun y => !isL rs n' y) s p (q * s)) (ms.getD k m0))) ∧ Below w.heap.size w w' := by
  have H := Lib.hid (Tri.more h hB)
  have H' := Lib.hid (Tri.more h' hB)
  have HC := Lib.hid hC
  have HTL := Lib.hid (fun j => turn_lt (p := p) (s := s) (j := j) (q := q) hp)
  have HTW := Lib.hid (show cnt (isL rs n') s p (q * s) + cnt (fun y => !isL rs n' y) s p (q * s) = q by rw [← cnt_end _ hp q, ← cnt_end _ hp q]; exact cnt_two _ hp q)
  have HEN := Lib.hid (cnt_end (isL rs n') hp q)
  have HSY := Lib.hid (fun j => @cnt_step_yes (isL rs n') s p hp j)
  have HSN := Lib.hid (fun j => @cnt_step_no (isL rs n') s p hp j)
  have HZ := Lib.hid (cnt_zero (isL rs n') hp)
  have HLE := Lib.hid (fun Y => cnt_le (isL rs n') s p Y)
  have CL := Lib.hid (fun (W : World) (hb : Below w.heap.size w W) (Y : Nat) (hY : Y ≤ 1000000) => l15Leap_any g A' n' c' w.heap.size rs (Y : Int) W (Nat.lt_of_lt_of_le HC.out.lt hb.size) (HC.out.call hb).c2 (Tri.below H'.out hb) hb.size (by omega) hev (by omega) (by omega))
  obtain ⟨X, hX⟩ : ∃ X, q * s = X := ⟨_, rfl⟩
  rw [hX] at hq
  have HX := Lib.hid hX
  have hs1 : 1 ≤ s := by omega
  have hqX : q ≤ X := by rw [← hX]; exact Nat.le_mul_of_pos_right q hs1
  rw [hX] at HTL HTW HEN ⊢
  obtain ⟨V, hV⟩ : ∃ V, bestN (cnt (isL rs n') s p X) (cnt (fun y => !isL rs n' y) s p X) (ms.getD k m0) = V := ⟨_, rfl⟩
  rw [hV]
  have HVV := Lib.hid hV
  clear hV
  have i0 : (0 : Int) ≤ (k : Int) := Int.natCast_nonneg _
  clear h h' hC hev hX
  go_enter Try.func97, Try.ntmps97
  go_wp2
  go_loopw [11, 12, 13] (fun a b t wr => ∃ j : Nat, t = .int .i64 ((p + j * s : Nat) : Int) ∧ j ≤ q ∧ a = .int .i64 ((cnt (isL rs n') s p (p + j * s) : Nat) : Int) ∧ b = .int .i64 (j : Int) ∧ Hid (Below w.heap.size w wr)) (fun _ b _ _ => q - (intOf b).toNat)
  case atStart => exact ⟨0, by simp, Nat.zero_le _, by rw [HZ.out]; rfl, rfl, Lib.hid (Below.refl _ _)⟩
  case round =>
    obtain ⟨j, rfl, hj, rfl, rfl, HB⟩ := hrel
    have htl := HTL.out j
    have hsy := HSY.out j
    have hsn := HSN.out j
    have hle := HLE.out (p + j * s)
    have hnx : p + j * s + s = p + (j + 1) * s := by rw [Nat.add_mul, Nat.one_mul]; omega
    rw [← hnx] at hsy hsn
    have hil : isL rs n' (p + j * s) = leapK rs ((p + j * s : Nat) : Int) n' := rfl
    by_cases hlt : j < q
    · have hY0 := htl.mpr hlt
      have cl := CL.out wr HB.out (p + j * s) (by omega)
      rw [← hil] at cl
      have HNX := Lib.hid hnx
      clear htl hnx hil
      generalize p + j * s = Y at *
      have i1 : (Y : Int) < (X : Int) := by omega
      generalize cnt (isL rs n') s p Y = F1 at *
      cases hL : isL rs n' Y
      · have hx := Lib.hid (hsn hL)
        rw [hL] at cl
        have CL2 := Lib.hid cl
        clear cl hsy hsn hL
        go_wp2_with (first | (go_at_call 93; refine CL2.out.mono ?_; rintro e1 w3 ⟨rfl, hb3⟩; have HB3 := Lib.hid (below_call HB.out hb3); clear hb3) | fail)
        go_roundw
        case rel => exact ⟨j + 1, by rw [← HNX.out]; first | go_num | (push_cast; rfl), by omega, by rw [← HNX.out]; first | (congr 1; omega) | rw [hx.out], by go_num, HB3⟩
        case measure => simp [intOf]; omega
      · have hx := Lib.hid (hsy hL)
        rw [hL] at cl
        have CL2 := Lib.hid cl
        clear cl hsy hsn hL
        go_wp2_with (first | (go_at_call 93; refine CL2.out.mono ?_; rintro e1 w3 ⟨rfl, hb3⟩; have HB3 := Lib.hid (below_call HB.out hb3); clear hb3) | fail)
        go_roundw
        case rel => exact ⟨j + 1, by rw [← HNX.out]; first | go_num | (push_cast; rfl), by omega, by rw [← HNX.out]; first | rw [hx.out]; push_cast; rfl, by go_num, HB3⟩
        case measure => simp [intOf]; omega
    · have hE : j = q := by omega
      subst hE
      have hjX := HX.out
      have hx1 : ¬ (p + X < X) := by omega
      rw [hjX] at hle htl ⊢
      have hen := HEN.out
      have htw := HTW.out
      have zc := (HC.out.call HB.out).lt
      have u1 := (HC.out.call HB.out).c1
      obtain ⟨b, off, rfl, hbl, c1, c2, c3⟩ := Months.at_ (Tri.below H.out HB.out) hk
      obtain ⟨G, hG⟩ : ∃ G, cnt (fun y => !isL rs n' y) s p X = G := ⟨_, rfl⟩
      obtain ⟨F, hF⟩ : ∃ F, cnt (isL rs n') s p (p + X) = F := ⟨_, rfl⟩
      obtain ⟨m, hm⟩ : ∃ m, ms.getD k m0 = m := ⟨_, rfl⟩
      have HV := Lib.hid (fun v (h : bestN F G m = v) => (show v = V by rw [← HVV.out, hG, hm, ← hen, hF]; exact h.symm))
      rw [hm] at c1 c2 c3
      rw [← hen, hF, hG] at htw
      rw [hF]
      clear htl hsy hsn hnx hil hen
      rw [hF] at hle
      clear hF hG hm
      clear hjX
      generalize p + X = Y at *
      have i1 : ¬ ((Y : Int) < (X : Int)) := by omega
      have i2 : (k : Int) < (n : Int) := by omega
      have s1 : IntKind.i64.wrap (2 * (F : Int)) = 2 * (F : Int) := IntWalk.i64_in _ (by omega)
      rcases Nat.lt_trichotomy F G with hc | hc | hc
      · have HV2 := Lib.hid (HV.out _ (bestN_less (m := m) hc))
        have d1 : ¬ ((j : Int) < 2 * (F : Int)) := by omega
        have d2 : 2 * (F : Int) < (j : Int) := by omega
        go_wp2
        go_ret
        exact ⟨ret_int HV2.out, HB.out⟩
      · have d1 : ¬ ((j : Int) < 2 * (F : Int)) := by omega
        have d2 : ¬ (2 * (F : Int) < (j : Int)) := by omega
        by_cases hm : m.lp < m.dy
        · have HV2 := Lib.hid (HV.out _ (bestN_eq hc hm))
          have CMN := Lib.hid (fun W => l00Min_val m.lp m.dy _ (if_pos hm) W)
          go_wp2
          go_quiet ((go_at_call 122; exact quiet_left (CMN.out _)))
          go_wp2
          go_ret
          exact ⟨ret_int HV2.out, by have := HB.out; (repeat (first | with_reducible exact Below.refl _ _ | with_reducible refine below_alloc ?_ _ | with_reducible refine below_drewN ?_ _ | with_reducible refine Below.drew ?_ | ((with_reducible refine below_set ?_ ?_ _); rotate_left; (focus (first | (simp; done) | (simp; omega) | omega))) | with_reducible refine below_call ?_ (by assumption)))⟩
        · have HV2 := Lib.hid (HV.out _ (bestN_eq2 hc hm))
          have CMN := Lib.hid (fun W => l00Min_val m.lp m.dy _ (if_neg hm) W)
          go_wp2
          go_quiet ((go_at_call 122; exact quiet_left (CMN.out _)))
          go_wp2
          go_ret
          exact ⟨ret_int HV2.out, by have := HB.out; (repeat (first | with_reducible exact Below.refl _ _ | with_reducible refine below_alloc ?_ _ | with_reducible refine below_drewN ?_ _ | with_reducible refine Below.drew ?_ | ((with_reducible refine below_set ?_ ?_ _); rotate_left; (focus (first | (simp; done) | (simp; omega) | omega))) | with_reducible refine below_call ?_ (by assumption)))⟩
      · have HV2 := Lib.hid (HV.out _ (bestN_more (m := m) hc))
        have d1 : (j : Int) < 2 * (F : Int) := by omega
        go_wp2
        go_ret
        exact ⟨ret_int HV2.out, HB.out⟩
set_option maxRecDepth 8000 in
set_option maxHeartbeats 4000000 in
theorem l17Count_any (g : Nat) (nm : ByteArray) (A A' L : Option Addr) (n n' c c' l e B : Nat) (ms : List Mth) (rs : List Rul) (cw : Int) (zs : List Int) (X : Nat) (w : World) (hC : CalAt w g nm A A' n n' c c' cw) (h : Months w B A n ms) (h' : Rules w B A' n' rs) (hI : Ints w B L l zs) (hB : B ≤ w.heap.size) (hn1 : 1 ≤ n) (hn : n ≤ 20) (hn' : n' ≤ 1048576) (hl1 : 1 ≤ l) (hl : l ≤ 260) (k3 : l % n = 0) (hev : ∀ j, j < n' → 1 ≤ (rs.getD j r0).ev) (hX : X ≤ 520000) :
    Calls Try.prog 98 #[.pointer (some ⟨g, 0, none⟩), .slice L l e, .int .i64 (X : Int)] w fun e w' => e = .returned (.int .i64 ((allF ms rs n n' zs l 0 X).length : Nat)) ∧ Below w.heap.size w w' := by
  have H := Lib.hid (Tri.more h hB)
  have H' := Lib.hid (Tri.more h' hB)
  have HI := Lib.hid (hI.more hB)
  have HC := Lib.hid hC
  have CF := Lib.hid (fun (W : World) (hb : Below w.heap.size w W) (y k : Nat) (hy : y ≤ 1000000000) (hk : k < n) => l17Month_any g nm A A' L n n' c c' l e w.heap.size ms rs cw zs y k W (HC.out.call hb) (Tri.below H.out hb) (Tri.below H'.out hb) (Ints.below HI.out hb) hb.size hn1 hn hn' hl1 hl k3 hev hy hk)
  have HL := Lib.hid (fun j => allF_le ms rs n n' zs l 0 j)
  have HS := Lib.hid (fun j => (show (allF ms rs n n' zs l 0 (j + 1)).length = (allF ms rs n n' zs l 0 j).length + (fY ms rs n' zs (placeY l n j) j n).length by
    show (allF ms rs n n' zs l 0 j ++ fY ms rs n' zs (placeY l n (0 + j)) (0 + j) n).length = _
    rw [List.length_append, Nat.zero_add]))
  clear h h' hI hC hev
  go_enter Try.func98, Try.ntmps98
  go_wp2
  go_loopw [7, 8, 9, 10, 11] (fun a t _ _ _ wr => ∃ j : Nat, t = .int .i64 (j : Int) ∧ j ≤ X ∧ a = .int .i64 ((allF ms rs n n' zs l 0 j).length : Nat) ∧ Hid (Below w.heap.size w wr)) (fun _ t _ _ _ _ => X - (intOf t).toNat)
  case atStart => exact ⟨0, rfl, Nat.zero_le _, rfl, Lib.hid (Below.refl _ _)⟩
  case round =>
    obtain ⟨j, rfl, hj, rfl, HB⟩ := hrel
    by_cases hlt : j < X
    · have i1 : (j : Int) < (X : Int) := by omega
      have hs1 := HS.out j
      have hl1 := HL.out j
      have m1 : j * n ≤ 520000 * 20 := Nat.mul_le_mul (by omega) hn
      have hF : (allF ms rs n n' zs l 0 j).length ≤ 10400000 := by omega
      obtain ⟨F1, hF1⟩ : ∃ F1, (allF ms rs n n' zs l 0 j).length = F1 := ⟨_, rfl⟩
      rw [hF1] at hs1 hF
      rw [hF1]
      have HS1 := Lib.hid hs1
      clear hs1 hl1 m1 hF1
      go_wp2
      go_loopw [7, 9, 10, 11] (fun a t _ _ wr => ∃ k : Nat, t = .int .i64 (k : Int) ∧ k ≤ n ∧ a = .int .i64 ((F1 + (fY ms rs n' zs (placeY l n j) j k).length : Nat) : Int) ∧ Hid (Below w.heap.size w wr)) (fun _ t _ _ _ => n - (intOf t).toNat)
      case atStart => exact ⟨0, rfl, Nat.zero_le _, rfl, HB⟩
      case round =>
        clear HB
        obtain ⟨k, rfl, hk, rfl, HB⟩ := hrel
        obtain ⟨zc, u0, u1, u2, u3⟩ := HC.out.call HB.out
        have k0 : (0 : Int) ≤ (k : Int) := by omega
        by_cases hlk : k < n
        · have i2 : (k : Int) < (n : Int) := by omega
          have cf := CF.out wr HB.out j k (by omega) hlk
          have hf1 := @fY_same ms rs n' zs (placeY l n j) j k
          have hf2 := @fY_more ms rs n' zs (placeY l n j) j k
          have hfl := fY_len ms rs n' zs (placeY l n j) j k
          generalize zs.getD (placeY l n j + k) 0 = x at *
          generalize dayK ms rs n' (j : Int) ((k : Int) + 1) = D at *
          by_cases hx : x = D
          · have HF := Lib.hid (hf1 hx)
            subst hx
            simp only [bne_self_eq_false] at cf
            have C2 := Lib.hid cf
            clear hf1 hf2 cf
            go_wp2_with fail
            go_at_call 123
            refine C2.out.mono ?_
            rintro e1 w3 ⟨rfl, hb3⟩
            have HB' := Lib.hid (below_call HB.out hb3)
            clear hb3 zc u0 u1 u2 u3
            go_wp2
            go_roundw
            case rel => exact ⟨k + 1, by go_num, by omega, by rw [HF.out]; push_cast; rfl, Lib.hid (HB'.out.alloc HB'.out.size _)⟩
            case measure => simp [intOf]; omega
          · have hf3 := hf2 hx
            have hx2 : (x != D) = true := by simpa using hx
            rw [hx2] at cf
            have C2 := Lib.hid cf
            have hlen : (fY ms rs n' zs (placeY l n j) j (k + 1)).length = (fY ms rs n' zs (placeY l n j) j k).length + 1 := by rw [hf3, List.length_append]; rfl
            generalize (fY ms rs n' zs (placeY l n j) j k).length = G1 at *
            have HF := Lib.hid hlen
            clear hf1 hf2 hf3 cf hlen
            go_wp2_with fail
            go_at_call 123
            refine C2.out.mono ?_
            rintro e1 w3 ⟨rfl, hb3⟩
            have HB' := Lib.hid (below_call HB.out hb3)
            clear hb3 zc u0 u1 u2 u3
            go_wp2
            go_roundw
            case rel => exact ⟨k + 1, by go_num, by omega, by rw [HF.out]; first | go_num | (congr 1; push_cast; omega) | (congr 1; omega), Lib.hid (HB'.out.alloc HB'.out.size _)⟩
            case measure => simp [intOf]; omega
        · have hE : k = n := by omega
          subst hE
          go_wp2
          go_roundw
          case rel => exact ⟨j + 1, by go_num, by omega, by rw [HS1.out], HB⟩
          case measure => simp [intOf]; omega
    · have hE : j = X := by omega
      subst hE
      go_wp2
      go_ret
      exact ⟨rfl, HB.out⟩
end Go.Proofs.Ytmbdedkelckedaa

/- Contract of the reference's BestCam. No conditions but that there are at most 2^20 months and rules. -/
namespace Go.Proofs.Ytmbdedkelckedaa
open Go.RowKit
set_option linter.unusedVariables false
set_option linter.unusedSimpArgs false
set_option maxRecDepth 8000 in
set_option maxHeartbeats 4000000 in
theorem specBestCam_any (nm : ByteArray) (A A' : Option Addr) (n n' c c' B : Nat) (ms : List Mth) (rs : List Rul) (cw y : Int) (w : World) (h : Months w B A n ms) (h' : Rules w B A' n' rs) (hB : B ≤ w.heap.size) (hn : n ≤ 1048576) (hn' : n' ≤ 1048576) (hw : ∀ j, j < n' → -9223372036854775808 ≤ (rs.getD j r0).ev) :
    Calls Try.prog 63 #[.agg #[.string nm, .slice A n c, .slice A' n' c', .int .i64 cw], .int .i64 y] w (NewBC w (rBC nm n n' ms rs cw y)) := by
  have H := Lib.hid (Tri.more h hB)
  have H' := Lib.hid (Tri.more h' hB)
  have HC0 := Lib.hid (cal_new w 27 nm A A' n n' c c' cw)
  have BA := Lib.hid (alb' w (.cells #[.string nm, .slice A n c, .slice A' n' c', .int .i64 cw] 27))
  clear h h'
  have cO := fun (W : World) (hC : CalAt W w.heap.size nm A A' n n' c c' cw) (hb : Below w.heap.size w W) => l15Ok_any w.heap.size nm A A' n n' c c' w.heap.size ms rs cw W hC (Tri.below H.out hb) (Tri.below H'.out hb) hb.size (by omega) (by omega) hw
  clear hw
  cases hv : vCal nm n n' ms rs cw
  · rw [rBC_bad hv]
    rw [hv] at cO
    have CO := Lib.hid cO
    clear cO hv
    go_enter Try.func63, Try.ntmps63
    go_wp2_with fail
    go_at_call 39
    refine (CO.out _ HC0.out BA.out).mono ?_
    rintro e1 w1 ⟨rfl, hb1⟩
    have KC := Lib.hid (HC0.out.call hb1)
    have HB := Lib.hid (BA.out.trans (hb1.mono BA.out.size))
    clear hb1
    go_wp2
    go_ret3
    exact newBC_bad HB.out
  rw [hv] at cO
  have CO := Lib.hid cO
  obtain ⟨-, -, -, hmo, ⟨n1, n2⟩, -, -⟩ := vCal_yes hv
  have cY := fun (W : World) (hC : CalAt W w.heap.size nm A A' n n' c c' cw) => l17Years_any w.heap.size nm A A' n n' c c' cw y W hC n1 (by omega)
  cases hy : inB y 1 ((260 / n : Nat) : Int)
  · rw [rBC_far hv hy]
    rw [hy] at cY
    have CY := Lib.hid cY
    clear cO hv cY hy hmo
    go_enter Try.func63, Try.ntmps63
    go_wp2_with fail
    go_at_call 39
    refine (CO.out _ HC0.out BA.out).mono ?_
    rintro e1 w1 ⟨rfl, hb1⟩
    have KC := Lib.hid (HC0.out.call hb1)
    have HB := Lib.hid (BA.out.trans (hb1.mono BA.out.size))
    clear hb1
    go_wp2_with (first | (go_at_call 91; refine (CY.out _ KC.out).mono ?_; rintro e1 w2 ⟨rfl, hb2⟩; have HB2 := Lib.hid (below_call HB.out hb2); clear hb2) | fail)
    go_ret3
    exact newBC_bad HB2.out
  rw [hy] at cY
  have CY := Lib.hid cY
  have y1 := inB_yes hy
  obtain ⟨s, rfl⟩ := Int.eq_ofNat_of_zero_le (show 0 ≤ y by omega)
  have hs : 1 ≤ s := by omega
  have hsn : s * n ≤ 260 := (div_le_bd n1).mp (by omega)
  have hs2 : s ≤ 260 := Nat.le_trans (Nat.le_mul_of_pos_right s n1) hsn
  rw [rBC_ok hv hy]
  obtain ⟨hcv, hcl⟩ := camB_ok (rs := rs) (n' := n') hv hs hsn
  obtain ⟨cy, hcy, c1, c2⟩ := vCal_cyc hv
  obtain ⟨q, hq⟩ := comN_mul s (cycK rs n').toNat
  have hX : comN s (cycK rs n').toNat ≤ 520000 := by rw [hcy, Int.toNat_natCast]; exact comN_bd hs2 c2
  have hdv : s * n / n = s := Nat.mul_div_cancel s n1
  have hmd : s * n % n = 0 := Nat.mul_mod_left s n
  have hl1 : 1 ≤ s * n := Nat.le_trans (by omega) (Nat.mul_le_mul hs n1)
  have hcf : cntFaults ms rs n n' (camB ms rs n n' s) (s * n) = ((allF ms rs n n' (camB ms rs n n' s) (s * n) 0 (q * s)).length : Nat) := by unfold cntFaults; rw [hdv, hq]
  have hcb : camB ms rs n n' s = allB ms rs n n' s (q * s) s := by unfold camB; rw [hq]
  rw [hcf]
  rw [hcb] at hcl ⊢
  have CM := Lib.hid (fun (W : World) (hC : CalAt W w.heap.size nm A A' n n' c c' cw) (hb : Below w.heap.size w W) => (l17Common_any w.heap.size nm A A' n n' c c' w.heap.size ms rs cw s W hC (Tri.below H'.out hb) hb.size hn' hv hs hs2))
  rw [hq] at CM hX
  have CN := Lib.hid (fun (W : World) (hC : CalAt W w.heap.size nm A A' n n' c c' cw) (hb : Below w.heap.size w W) (p k : Nat) (hp : p < s) (hk : k < n) => l17Notch_any w.heap.size nm A A' n n' c c' w.heap.size ms rs cw p s q k W hC (Tri.below H.out hb) (Tri.below H'.out hb) hb.size hn' (vCal_ev hv) hp hs2 hX hk hn)
  have CK := Lib.hid (fun (W : World) (hC : CalAt W w.heap.size nm A A' n n' c c' cw) (hb : Below w.heap.size w W) (L : Option Addr) (e : Nat) (zs : List Int) (hI : Ints W W.heap.size L (s * n) zs) => l17Count_any w.heap.size nm A A' L n n' c c' (s * n) e W.heap.size ms rs cw zs (q * s) W hC (Tri.more (Tri.below H.out hb) hb.size) (Tri.more (Tri.below H'.out hb) hb.size) hI (Nat.le_refl _) n1 n2 hn' hl1 hsn hmd (vCal_ev hv) hX)
  have HCL := Lib.hid (fun j => allB_len ms rs n n' s (q * s) j)
  have HST := Lib.hid (fun j => (show allB ms rs n n' s (q * s) (j + 1) = allB ms rs n n' s (q * s) j ++ rowB ms (cnt (isL rs n') s j (q * s)) (cnt (fun y => !isL rs n' y) s j (q * s)) n from rfl))
  have HRT := Lib.hid (fun a b k => (show rowB ms a b (k + 1) = rowB ms a b k ++ [bestN a b (ms.getD k m0)] from rfl))
  obtain ⟨l, hln⟩ : ∃ l, s * n = l := ⟨_, rfl⟩
  have HLN := Lib.hid hln
  rw [hln] at hsn CK hl1 hcl ⊢
  obtain ⟨X, hX2⟩ : ∃ X, q * s = X := ⟨_, rfl⟩
  rw [hX2] at CM CN CK HCL HST hX ⊢
  clear cO hv cY hy hmo y1 hcv hcl hcy hq hdv hcf hcb hX2 hmd hln
  go_enter Try.func63, Try.ntmps63
  go_wp2_with fail
  go_at_call 39
  refine (CO.out _ HC0.out BA.out).mono ?_
  rintro e1 w1 ⟨rfl, hb1⟩
  have KC := Lib.hid (HC0.out.call hb1)
  have HB := Lib.hid (BA.out.trans (hb1.mono BA.out.size))
  clear hb1
  go_wp2_with fail
  go_at_call 91
  refine (CY.out _ KC.out).mono ?_
  rintro e1 w2 ⟨rfl, hb2⟩
  have HB2 := Lib.hid (below_call HB.out hb2)
  have KC2 := Lib.hid (KC.out.call hb2)
  clear hb2 KC HB
  go_wp2_with fail
  go_at_call 96
  refine (CM.out _ KC2.out HB2.out).mono ?_
  rintro e1 w3 ⟨rfl, hb3⟩
  have HB3 := Lib.hid (below_call HB2.out hb3)
  have KC3 := Lib.hid (KC2.out.call hb3)
  clear hb3 KC2 HB2
  go_wp2
  go_loopw [8, 9, 10] (fun a t _ wr => ∃ (j cc : Nat) (L : Option Addr), t = .int .i64 (j : Int) ∧ j ≤ s ∧ a = .slice L (j * n) cc ∧ Hid (Own wr (w.heap.size + 1) L (j * n) cc (allB ms rs n n' s X j)) ∧ Hid (CalAt wr w.heap.size nm A A' n n' c c' cw) ∧ Hid (Below w.heap.size w wr)) (fun _ t _ _ => s - (intOf t).toNat)
  case atStart => exact ⟨0, 0, _, rfl, Nat.zero_le _, by rw [Nat.zero_mul], Lib.hid (by rw [Nat.zero_mul]; exact own_empty rfl KC3.out.lt), Lib.hid (KC3.out.call (alb' _ _)), Lib.hid (HB3.out.alloc HB3.out.size _)⟩
  case round =>
    clear KC3 HB3
    obtain ⟨j, cc, L, rfl, hj, rfl, HO, HC, HB⟩ := hrel
    by_cases hlt : j < s
    · have i1 : (j : Int) < (s : Int) := by omega
      have hst := HST.out j
      have cn := fun (W : World) (hC : CalAt W w.heap.size nm A A' n n' c c' cw) (hb : Below w.heap.size w W) (k : Nat) (hk : k < n) => CN.out W hC hb j k hlt hk
      have hjn : (j + 1) * n = j * n + n := by rw [Nat.add_mul, Nat.one_mul]
      have hjb : j * n ≤ 260 := Nat.le_trans (Nat.mul_le_mul_right n (Nat.le_of_lt hlt)) (by rw [HLN.out]; exact hsn)
      have HJN := Lib.hid hjn
      clear hjn
      obtain ⟨Y, hY⟩ : ∃ Y, j * n = Y := ⟨_, rfl⟩
      rw [hY] at HJN hjb HO
      rw [hY]
      clear hY
      generalize cnt (isL rs n') s j X = F1 at *
      generalize cnt (fun y => !isL rs n' y) s j X = F2 at *
      have HST1 := Lib.hid hst
      have CN1 := Lib.hid cn
      clear hst cn
      go_wp2
      go_loopw [8, 10] (fun a t wr => ∃ (k m cc : Nat) (L : Option Addr), t = .int .i64 (k : Int) ∧ k ≤ n ∧ a = .slice L m cc ∧ Hid (m = Y + k) ∧ Hid (Own wr (w.heap.size + 1) L m cc (allB ms rs n n' s X j ++ rowB ms F1 F2 k)) ∧ Hid (CalAt wr w.heap.size nm A A' n n' c c' cw) ∧ Hid (Below w.heap.size w wr)) (fun _ t _ => n - (intOf t).toNat)
      case atStart => exact ⟨0, Y, cc, L, rfl, Nat.zero_le _, rfl, Lib.hid rfl, Lib.hid (by rw [rowB, List.append_nil]; exact HO.out), HC, HB⟩
      case round =>
        clear HO HC HB
        obtain ⟨k, m, cc, L, rfl, hk, rfl, hm, HO, HC, HB⟩ := hrel
        obtain ⟨zc, u0, u1, u2, u3⟩ := HC.out
        have k0 : (0 : Int) ≤ (k : Int) := by omega
        by_cases hlk : k < n
        · have i2 : (k : Int) < (n : Int) := by omega
          have cn := fun (W : World) (hC : CalAt W w.heap.size nm A A' n n' c c' cw) (hb : Below w.heap.size w W) => CN1.out W hC hb k hlk
          have hrt := HRT.out F1 F2 k
          generalize bestN F1 F2 (ms.getD k m0) = V at *
          have HRT1 := Lib.hid hrt
          have CN2 := Lib.hid cn
          clear hrt cn
          go_wp2_with fail
          go_at_call 97
          refine (CN2.out _ HC.out HB.out).mono ?_
          rintro e1 w4 ⟨rfl, hb4⟩
          have HO4 := Lib.hid (HO.out.call hb4)
          have HC4 := Lib.hid (HC.out.call hb4)
          have HB4 := Lib.hid (below_call HB.out hb4)
          have z4 := HC4.out.lt
          have hmb : m ≤ 10000000 := by have := hm.out; omega
          clear hb4 zc u0 u1 u2 u3
          go_wp2_with (first | (at_builtin; refine wpList_app rfl _ _ rfl _ (w.heap.size + 1) _ _ _ _ rfl (Own.alloc HO4.out _) w4.heap.size rfl V (by simp) (by omega) (by simp; omega) ?_; intro L5 c5 w5 ho5 hb5; have HO5 := Lib.hid ho5; have HC5 := Lib.hid ((HC4.out.call (alb' _ _)).below (by omega) hb5); have HB5 := Lib.hid ((HB4.out.alloc HB4.out.size _).trans (hb5.mono (by omega))); clear ho5 hb5) | fail)
          go_roundw
          case rel => exact ⟨k + 1, m + 1, c5, L5, by go_num, by omega, rfl, Lib.hid (by have := hm.out; omega), Lib.hid (by rw [HRT1.out, ← List.append_assoc]; exact HO5.out), HC5, HB5⟩
          case measure => simp [intOf]; omega
        · have i2 : ¬ ((k : Int) < (n : Int)) := by omega
          have hE : k = n := by omega
          subst hE
          have hm2 := hm.out
          subst hm2
          go_wp2
          go_roundw
          case rel => exact ⟨j + 1, cc, L, by go_num, by omega, by rw [HJN.out], Lib.hid (by rw [HJN.out, HST1.out]; exact HO.out), HC, HB⟩
          case measure => simp [intOf]; omega
    · have hE : j = s := by omega
      have hjl : j * n = l := by rw [hE]; exact HLN.out
      rw [hjl] at HO
      rw [hjl]
      have HE := Lib.hid hE
      clear hjl hE
      go_wp2_with fail
      go_at_call 98
      refine (CK.out _ HC.out HB.out _ _ _ (Own.ints (by rw [HE.out] at HO; exact HO.out) (Nat.le_refl _))).mono ?_
      rintro e1 w5 ⟨rfl, hb5⟩
      have HO5 := Lib.hid (HO.out.call hb5)
      rw [HE.out] at HO5
      have HB5 := Lib.hid (below_call HB.out hb5)
      clear hb5
      go_wp2
      go_ret3
      exact ⟨L, l, cc, rfl, HO5.out.low (by omega), HB5.out⟩
end Go.Proofs.Ytmbdedkelckedaa

/- Decimal texts of numbers from 0 on: the reference's (digit by digit) and the program's (the library's). No conditions but that a number is below 100 for the program's, at most 10^9 for the reference's. -/
namespace Go.Proofs.Ytmbdedkelckedaa
open Go.RowKit
set_option linter.unusedVariables false
set_option linter.unusedSimpArgs false
/-- what the digits of j ahead of ds come to -/
def decLeft (j : Nat) (ds : List UInt8) : List UInt8 := if j = 0 then ds else Lib.decDigits j ++ ds
theorem decLeft_step {j : Nat} (hj : j ≠ 0) (ds : List UInt8) : decLeft (j / 10) (UInt8.ofNat (48 + j % 10) :: ds) = decLeft j ds := by
  unfold decLeft
  rw [if_neg hj]
  conv => rhs; rw [Lib.decDigits]
  by_cases h : j < 10
  · rw [if_pos (by omega), dif_pos h, Nat.mod_eq_of_lt h]; rfl
  · rw [if_neg (by omega), dif_neg h, List.append_assoc]; rfl
theorem dec_zero : Lib.decDigits 0 = [48] := by rw [Lib.decDigits]; simp
theorem str_app (a b : List UInt8) : (⟨a.toArray⟩ : ByteArray) ++ ⟨b.toArray⟩ = ⟨(a ++ b).toArray⟩ := by
  apply ByteArray.ext
  simp
theorem info_u8 : (Try.prog.info? 5).map (fun i => (i.zero, i.size, i.bytes)) = some (some (.int .u8 0), 1, 1) := by kernel_rfl
/-- append of a row of bytes of the call's own to another -/
theorem wpList_appB {ops : Array Oper} {rest : List Oper} {o : Oper} {a : Act} {Q : Exit → Act → World → Prop} (hgd : o.guard = none) (s x : Operand)
    (ho : o.op = .call { callee := .builtin .append, args := #[s, x], argTypes := #[22, 22] })
    (w : World) (base base' : Nat) (A : Option Addr) (n c b m cx : Nat) (xs ys : List Value) (hs : a.eval s = .slice A n c) (hx : a.eval x = .slice (some ⟨b, 0, none⟩) m cx) (hown : w.ownsRow base 5 1 (.slice A n c) n xs)
    (hy : w.ownsRow base' 5 1 (.slice (some ⟨b, 0, none⟩) m cx) m ys) (h1 : ∀ u ∈ ys, u.oneCell' = true) (hn1 : 1 ≤ n) (hn : n + m ≤ 1000000000000) (hb : base ≤ w.heap.size)
    (h : ∀ g c' w', w'.ownsRow base 5 1 (.slice (some ⟨g, 0, none⟩) (n + m) c') (n + m) (xs ++ ys) → Below base w w' → wpList Try.prog ops Q rest (a.put o.dst (.slice (some ⟨g, 0, none⟩) (n + m) c')) w') : wpList Try.prog ops Q (o :: rest) a w := by
  obtain ⟨i0, hi, hz0, hz1, hz2⟩ := info_parts info_u8
  have hl : ys.length = m * 1 := hy.1
  refine wpList_append_own_at (P := Try.prog) w hgd s x 22 ho base 5 i0 (.int .u8 0) 1 1 Try.underlying22 hi hz0 hz1 hz2 rfl (by omega) (.slice A n c) n xs hs hown ⟨b, 0, none⟩ m cx ys hx hl
    (fun j u hj => ?_) h1 (by simp only [maxLen]; omega) (by omega) hb (fun v' w' h1' h2 _ _ => ?_)
  · have hj2 : j < ys.length := (List.getElem?_eq_some_iff.1 hj).1
    have e : (⟨b, 0, none⟩ : Addr).add j = ⟨b, j, none⟩ := by unfold Addr.add; split <;> simp_all
    rw [e, World.ownsRow.cellAt hy j (by omega)]; exact hj
  · rcases h1'.2 with ⟨_, h0⟩ | ⟨g, cap, cur, e, _⟩
    · omega
    · subst e
      refine h g _ w' h1' ((Below.refl base w).grown h2 hb (fun k hk => ?_))
      rcases hown.2 with ⟨e, _⟩ | ⟨g', cap', cur', e, hg', _⟩
      · rw [e] at hk; simp [Value.ownBlock] at hk
      · rw [e] at hk; simp [Value.ownBlock] at hk; omega
theorem u8_byte (x : Nat) (h : x < 10) : Value.int .u8 (48 + (x : Int)) = Value.int .u8 ((UInt8.ofNat (48 + x)).toNat : Int) := by
  congr 1
  simp
  omega
theorem pow_step {j m n : Nat} (hj : 1 ≤ j) (hn : n < 1000000000000000000) (h : j * 10 ^ m ≤ n) : m + 1 ≤ 18 ∧ j / 10 * 10 ^ (m + 1) ≤ n := by
  have h1 : 10 ^ m ≤ n := Nat.le_trans (by have := Nat.mul_le_mul_right (10 ^ m) hj; omega) h
  refine ⟨?_, ?_⟩
  · by_cases hm : m < 18
    · omega
    · have h2 : (10 : Nat) ^ 18 ≤ 10 ^ m := Nat.pow_le_pow_right (by omega) (by omega)
      have h3 : (10 : Nat) ^ 18 = 1000000000000000000 := by decide
      rw [h3] at h2; omega
  · rw [Nat.pow_succ, Nat.mul_comm (10 ^ m) 10, ← Nat.mul_assoc]
    exact Nat.le_trans (Nat.mul_le_mul_right _ (Nat.div_mul_le_self j 10)) h
set_option maxHeartbeats 4000000 in
theorem l01Dec_any (n : Nat) (w : World) (hn : n < 1000000000000000000) :
    Calls Try.prog 89 #[.int .i64 (n : Int)] w fun e w' => e = .returned (.string ⟨(Lib.decDigits n).toArray⟩) ∧ Below w.heap.size w w' := by
  go_enter Try.func89, Try.ntmps89
  go_wp2
  go_loopw [3, 4] (fun l t wr => ∃ (j m c g : Nat) (ds : List UInt8), t = .int .i64 (j : Int) ∧ l = .slice (some ⟨g, 0, none⟩) m c ∧ j ≤ n ∧ m ≤ 18 ∧ Hid (j * 10 ^ m ≤ n) ∧ Hid (decLeft j ds = decLeft n []) ∧ Hid (wr.ownsRow w.heap.size 5 1 (.slice (some ⟨g, 0, none⟩) m c) m (Lib.byteCells ds)) ∧ Below w.heap.size w wr) (fun _ t _ => (intOf t).toNat)
  case atStart => exact ⟨n, 0, 0, w.heap.size, [], rfl, rfl, Nat.le_refl _, by omega, Lib.hid (by simp), Lib.hid rfl, Lib.hid (World.ownsRow_lit w #[] 0 (Nat.le_refl _) (Nat.zero_le _) (by simp)), (Below.refl _ _).alloc (Nat.le_refl _) _⟩
  case round =>
    obtain ⟨j, m, c, g, ds, rfl, rfl, hjn, hm, hpw, he, ho, hB⟩ := hrel
    have zr := hB.size
    have HB := Lib.hid hB
    clear hB
    by_cases hj : j = 0
    · subst hj
      have hd : ds = decLeft n [] := he.out
      have hml : m = ds.length := by have := ho.out.1; rw [Lib.byteCells_length] at this; omega
      subst hml
      by_cases h0 : n = 0
      · have hd2 : ds = [] := by rw [hd, h0]; rfl
        have HE := Lib.hid (show (⟨#[48]⟩ : ByteArray) = ⟨(Lib.decDigits n).toArray⟩ by rw [h0, dec_zero])
        subst hd2
        clear hd
        go_wp2
        go_ret
        exact ⟨by rw [← HE.out]; rfl, HB.out⟩
      · have hd2 : ds = Lib.decDigits n := by rw [hd, decLeft, if_neg h0, List.append_nil]
        have hpos : 0 < ds.length := by
          rw [hd2, Lib.decDigits]
          split <;> simp
        have hcv := run_convert_bytes_back (P := Try.prog) wr 22 9 5 ⟨g, 0, none⟩ c ds Try.underlying22 Try.underlying5 Try.underlying9 (fun i hi => by
          have e : (⟨g, 0, none⟩ : Addr).add i = ⟨g, i, none⟩ := by unfold Addr.add; split <;> simp_all
          rw [e, World.ownsRow.cellAt ho.out i (by omega)]
          simp [Lib.byteCells, hi])
        have n0 : ¬ ((ds.length : Int) = 0) := by omega
        have n1 : ((ds.length : Int) == 0) = false := by simpa using n0
        have n2 : ¬ (ds.length = 0) := by omega
        have n3 : ¬ (ds = []) := by intro e; rw [e] at hpos; simp at hpos
        have n4 : ¬ ((n : Int) < 0) := by omega
        have HE := Lib.hid hd2
        clear hd hd2
        go_wp2
        go_ret
        exact ⟨by rw [← HE.out]; rfl, HB.out⟩
    · have hj2 : ¬ ((j : Int) = 0) := by omega
      have hj3 : ((j : Int) != 0) = true := by simpa using hj2
      have t1 : (j : Int).tmod 10 = ((j % 10 : Nat) : Int) := by rw [Int.tmod_eq_emod_of_nonneg (Int.natCast_nonneg _)]; exact (Int.natCast_emod j 10).symm
      have t2 : (j : Int).tdiv 10 = ((j / 10 : Nat) : Int) := by rw [Int.tdiv_eq_ediv_of_nonneg (Int.natCast_nonneg _)]; exact (Int.natCast_ediv j 10).symm
      have hdl : j / 10 < j := Nat.div_lt_self (by omega) (by omega)
      have hPW := Lib.hid (pow_step (j := j) (m := m) (n := n) (by omega) hn hpw.out)
      have HS := Lib.hid ((decLeft_step hj ds).trans he.out)
      have hx10 : j % 10 < 10 := Nat.mod_lt _ (by omega)
      have hB8 := u8_byte (j % 10) hx10
      obtain ⟨x, hx⟩ : ∃ x, x = j % 10 := ⟨_, rfl⟩
      obtain ⟨q, hq⟩ : ∃ q, q = j / 10 := ⟨_, rfl⟩
      rw [← hx] at t1 hx10 HS hB8
      rw [← hq] at t2 hdl HS hPW
      have HB8 := Lib.hid hB8
      clear hx hq hB8
      have r1 : ¬ ((x : Int) < 0) := by omega
      have r2 : IntKind.i64.wrap (48 + (x : Int)) = 48 + (x : Int) := IntWalk.i64_in _ (by omega)
      have r3 : IntKind.u8.wrap (48 + (x : Int)) = 48 + (x : Int) := by rw [IntKind.wrap_u8]; omega
      have r6 : (48 + (x : Int)) % 256 = 48 + (x : Int) := by omega
      have r4 : IntKind.i64.wrap (x : Int) = (x : Int) := IntWalk.i64_in _ (by omega)
      have r5 : IntKind.i64.wrap (q : Int) = (q : Int) := IntWalk.i64_in _ (by omega)
      have OD : Hid ((wr.alloc (.cells #[.int .u8 (48 + (x : Int))] 5)).ownsRow w.heap.size 5 1 (.slice (some ⟨wr.heap.size, 0, none⟩) 1 1) 1 [.int .u8 (48 + (x : Int))]) := Lib.hid (World.ownsRow_lit wr #[.int .u8 (48 + (x : Int))] 1 (by omega) (by decide) rfl)
      have OS := Lib.hid (World.ownsRow.alloc ho.out (.cells #[.int .u8 (48 + (x : Int))] 5))
      have H1 : Hid (∀ u ∈ Lib.byteCells ds, u.oneCell' = true) := Lib.hid (fun u hu => by simp [Lib.byteCells] at hu; obtain ⟨b, _, rfl⟩ := hu; rfl)
      go_wp2_with (first | (at_builtin; refine wpList_appB rfl _ _ rfl _ w.heap.size w.heap.size _ 1 1 g m c _ _ rfl rfl OD.out OS.out H1.out (by omega) (by omega) (by simp; omega) ?_; intro g2 c2 w2 ho2 hb2; have HO2 := Lib.hid ho2; have HB2 := Lib.hid ((HB.out.alloc zr _).trans hb2); clear ho2 hb2) | fail)
      go_roundw
      case rel =>
        refine ⟨q, 1 + m, c2, g2, UInt8.ofNat (48 + x) :: ds, by first | rfl | go_num, rfl, by omega, by rw [Nat.add_comm]; exact hPW.out.1, Lib.hid (by rw [Nat.add_comm]; exact hPW.out.2), HS, Lib.hid ?_, HB2.out⟩
        have := HO2.out
        rw [HB8.out] at this
        exact this
      case measure => simp [intOf]; omega
end Go.Proofs.Ytmbdedkelckedaa
