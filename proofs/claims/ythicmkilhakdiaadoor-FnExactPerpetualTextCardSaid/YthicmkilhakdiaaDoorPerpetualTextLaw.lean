/- The law FnExactPerpetualText returns true: the program's PerpetualText is the reference's, and it leaves its argument as it was. No conditions. -/
import Derived.Test.YthicmkilhakdiaaDoorTextPerp2
import Derived.Test.YthicmkilhakdiaaDoorCards
import Derived.Test.YthicmkilhakdiaaDoorTie
import Derived.SevenTiedAt
import Derived.LaidMore
import Derived.LaidLaws
import Derived.MakeChecks
import Derived.Lib.LaidTab
import Derived.Stop.LaidErr
import Derived.Stop.Joined
import Derived.Test.YthicmkilhakdiaaDoorOpenPerp
namespace Go.Proofs.YthicmkilhakdiaaDoor.fnExactPerpetualText
open Go.ChangeShapes Go.WideShapes Go.ChangeAt Go.RowKit
set_option linter.unusedVariables false
set_option linter.unusedSimpArgs false
theorem pow_of {W : World} (h : laidMetH Tryd.prog Rows.fnExactPerpetualTextRow.laid W) : Pow W := by
  rw [MakeChecks.laidMetH_plain _ _ _ (by kernel_rfl)] at h
  have h2 := (laidMet.tail (laidMet.tail h))
  have e : (Rows.laid_internal_strconv_uint64pow10 : DataW Unit) = Lib.tabData .u64 Lib.pow10Tab := by kernel_rfl
  rw [e] at h2
  exact Lib.tabBelow_of_tabIs (Lib.tabIs_of_head (g := (Tryd.prog.globalNamed "internal/strconv.uint64pow10").getD 0) (by kernel_rfl) (by kernel_rfl) Tryd.underlying80 Tryd.underlying70 (by kernel_rfl) (by kernel_rfl) h2)
set_option maxHeartbeats 4000000 in
theorem walk (A : Option Addr) (n c : Nat) (zs : List Int) (mo te ix da we wd : Int)  (w : World) (h : Came w A n c zs) (hw : Six mo te ix da we wd) (ht : Pow w) :
    Calls Tryd.prog 3 #[.agg #[.slice A n c, .int .i64 mo, .int .i64 te, .int .i64 ix, .int .i64 da, .int .i64 we, .int .i64 wd]] w fun e w' => e = .returned (.bool true) ∧ Below w.heap.size w w' := by
  obtain ⟨hI, hn, -⟩ := h
  have hz := fun w => szPerpetual_any A n c mo te ix da we wd 1048576 w (by omega) (by omega) hn
  by_cases hle : (1048576 : Int) < n
  · simp only [if_pos hle] at hz
    have HZ := Lib.hid hz
    clear hz hI
    go_enter Tryd.func3, Tryd.ntmps3
    go_wp2_with fail
    refine (HZ.out _).mono ?_
    rintro e w1 ⟨rfl, hb1⟩
    obtain ⟨hc1, hf1, hs1⟩ := bcell hb1
    (try (refine cut_ (p := w.heap.size < w1.heap.size) ?_ ?_; (focus (refine hs1 _ ?_; first | assumption | omega | (simp [go_sem]; done) | (simp [go_sem]; omega))); intro hl1a))
    (try (refine cut_ (p := w.heap.size + 1 < w1.heap.size) ?_ ?_; (focus (refine hs1 _ ?_; first | assumption | omega | (simp [go_sem]; done) | (simp [go_sem]; omega))); intro hl1b))
    (try (refine cut_ (p := w.heap.size + 1 + 1 < w1.heap.size) ?_ ?_; (focus (refine hs1 _ ?_; first | assumption | omega | (simp [go_sem]; done) | (simp [go_sem]; omega))); intro hl1c))
    go_wp2
    go_ret
    exact ⟨rfl, by (repeat (first | with_reducible exact Below.refl _ _ | with_reducible refine below_alloc ?_ _ | with_reducible refine below_drewN ?_ _ | with_reducible refine Below.drew ?_ | ((with_reducible refine below_set ?_ ?_ _); rotate_left; (focus (first | (simp; done) | (simp; omega) | omega))) | with_reducible refine below_call ?_ (by assumption)))⟩
  · simp only [if_neg hle] at hz
    have hn' : n ≤ 1048576 := by omega
    have c1 := fun (A : Option Addr) (c B : Nat) (w : World) (h : Ints w B A n zs) (hB : B ≤ w.heap.size) => specPerpetualText_any A n c B zs mo te ix da we wd w h hB hn'
    have c2 := fun (A : Option Addr) (c B : Nat) (W : World) (h : Ints W B A n zs) (hB : B ≤ W.heap.size) (hb : Below w.heap.size w W) => PerpetualText_any A n c B zs mo te ix da we wd W w h hB hn' ht hb
    generalize (⟨(ptx zs n mo te ix da we wd).toArray⟩ : ByteArray) = V at *
    have C1 := Lib.hid c1
    have C2 := Lib.hid c2
    have HZ := Lib.hid hz
    have HI := Lib.hid hI
    clear hz hI c1 c2 hw ht
    go_enter Tryd.func3, Tryd.ntmps3
    go_wp2_with fail
    refine (HZ.out _).mono ?_
    rintro e w1 ⟨rfl, hb1⟩
    obtain ⟨hc1, hf1, hs1⟩ := bcell hb1
    (try (refine cut_ (p := w.heap.size < w1.heap.size) ?_ ?_; (focus (refine hs1 _ ?_; first | assumption | omega | (simp [go_sem]; done) | (simp [go_sem]; omega))); intro hl1a))
    (try (refine cut_ (p := w.heap.size + 1 < w1.heap.size) ?_ ?_; (focus (refine hs1 _ ?_; first | assumption | omega | (simp [go_sem]; done) | (simp [go_sem]; omega))); intro hl1b))
    (try (refine cut_ (p := w.heap.size + 1 + 1 < w1.heap.size) ?_ ?_; (focus (refine hs1 _ ?_; first | assumption | omega | (simp [go_sem]; done) | (simp [go_sem]; omega))); intro hl1c))
    go_wp2_with fail
    refine (toPerpetual_any A n c w.heap.size zs mo te ix da we wd _ (by exact Ints.below (HI.out) (by (repeat (first | with_reducible exact Below.refl _ _ | with_reducible refine below_alloc ?_ _ | with_reducible refine below_drewN ?_ _ | with_reducible refine Below.drew ?_ | ((with_reducible refine below_set ?_ ?_ _); rotate_left; (focus (first | (simp; done) | (simp; omega) | omega))) | with_reducible refine below_call ?_ (by assumption))))) (by exact Below.size (B := w.heap.size) (w := w) (by (repeat (first | with_reducible exact Below.refl _ _ | with_reducible refine below_alloc ?_ _ | with_reducible refine below_drewN ?_ _ | with_reducible refine Below.drew ?_ | ((with_reducible refine below_set ?_ ?_ _); rotate_left; (focus (first | (simp; done) | (simp; omega) | omega))) | with_reducible refine below_call ?_ (by assumption))))) hn').mono ?_
    rintro e w2 ⟨rfl, ho2, hb2⟩
    obtain ⟨hc2, hf2, hs2⟩ := bcell hb2
    have O2 := Lib.hid ho2
    clear ho2
    (try (refine cut_ (p := w.heap.size < w2.heap.size) ?_ ?_; (focus (refine hs2 _ ?_; first | assumption | omega | (simp [go_sem]; done) | (simp [go_sem]; omega))); intro hl2a))
    (try (refine cut_ (p := w.heap.size + 1 < w2.heap.size) ?_ ?_; (focus (refine hs2 _ ?_; first | assumption | omega | (simp [go_sem]; done) | (simp [go_sem]; omega))); intro hl2b))
    (try (refine cut_ (p := w.heap.size + 1 + 1 < w2.heap.size) ?_ ?_; (focus (refine hs2 _ ?_; first | assumption | omega | (simp [go_sem]; done) | (simp [go_sem]; omega))); intro hl2c))
    go_wp2_with fail
    refine (C1.out _ _ _ _ (by exact Own.ints (Own.call (O2.out) (by (repeat (first | with_reducible exact Below.refl _ _ | with_reducible refine below_alloc ?_ _ | with_reducible refine below_drewN ?_ _ | with_reducible refine Below.drew ?_ | ((with_reducible refine below_set ?_ ?_ _); rotate_left; (focus (first | (simp; done) | (simp; omega) | omega))) | with_reducible refine below_call ?_ (by assumption))))) (Nat.le_refl _)) (Nat.le_refl _)).mono ?_
    rintro e w3 ⟨rfl, hb3⟩
    obtain ⟨hc3, hf3, hs3⟩ := bcell hb3
    (try (refine cut_ (p := w.heap.size < w3.heap.size) ?_ ?_; (focus (refine hs3 _ ?_; first | assumption | omega | (simp [go_sem]; done) | (simp [go_sem]; omega))); intro hl3a))
    (try (refine cut_ (p := w.heap.size + 1 < w3.heap.size) ?_ ?_; (focus (refine hs3 _ ?_; first | assumption | omega | (simp [go_sem]; done) | (simp [go_sem]; omega))); intro hl3b))
    (try (refine cut_ (p := w.heap.size + 1 + 1 < w3.heap.size) ?_ ?_; (focus (refine hs3 _ ?_; first | assumption | omega | (simp [go_sem]; done) | (simp [go_sem]; omega))); intro hl3c))
    go_wp2_with fail
    refine (toPerpetual_any A n c w.heap.size zs mo te ix da we wd _ (by exact Ints.below (HI.out) (by (repeat (first | with_reducible exact Below.refl _ _ | with_reducible refine below_alloc ?_ _ | with_reducible refine below_drewN ?_ _ | with_reducible refine Below.drew ?_ | ((with_reducible refine below_set ?_ ?_ _); rotate_left; (focus (first | (simp; done) | (simp; omega) | omega))) | with_reducible refine below_call ?_ (by assumption))))) (by exact Below.size (B := w.heap.size) (w := w) (by (repeat (first | with_reducible exact Below.refl _ _ | with_reducible refine below_alloc ?_ _ | with_reducible refine below_drewN ?_ _ | with_reducible refine Below.drew ?_ | ((with_reducible refine below_set ?_ ?_ _); rotate_left; (focus (first | (simp; done) | (simp; omega) | omega))) | with_reducible refine below_call ?_ (by assumption))))) hn').mono ?_
    rintro e w4 ⟨rfl, ho4, hb4⟩
    obtain ⟨hc4, hf4, hs4⟩ := bcell hb4
    have O4 := Lib.hid ho4
    clear ho4
    (try (refine cut_ (p := w.heap.size < w4.heap.size) ?_ ?_; (focus (refine hs4 _ ?_; first | assumption | omega | (simp [go_sem]; done) | (simp [go_sem]; omega))); intro hl4a))
    (try (refine cut_ (p := w.heap.size + 1 < w4.heap.size) ?_ ?_; (focus (refine hs4 _ ?_; first | assumption | omega | (simp [go_sem]; done) | (simp [go_sem]; omega))); intro hl4b))
    (try (refine cut_ (p := w.heap.size + 1 + 1 < w4.heap.size) ?_ ?_; (focus (refine hs4 _ ?_; first | assumption | omega | (simp [go_sem]; done) | (simp [go_sem]; omega))); intro hl4c))
    have b4 : Below w.heap.size w w4 := by (repeat (first | with_reducible exact Below.refl _ _ | with_reducible refine below_alloc ?_ _ | with_reducible refine below_drewN ?_ _ | with_reducible refine Below.drew ?_ | ((with_reducible refine below_set ?_ ?_ _); rotate_left; (focus (first | (simp; done) | (simp; omega) | omega))) | with_reducible refine below_call ?_ (by assumption)))
    go_wp2_with fail
    refine (C2.out _ _ _ _ (by exact Own.ints (Own.call (O4.out) (by (repeat (first | with_reducible exact Below.refl _ _ | with_reducible refine below_alloc ?_ _ | with_reducible refine below_drewN ?_ _ | with_reducible refine Below.drew ?_ | ((with_reducible refine below_set ?_ ?_ _); rotate_left; (focus (first | (simp; done) | (simp; omega) | omega))) | with_reducible refine below_call ?_ (by assumption))))) (Nat.le_refl _)) (Nat.le_refl _) (below_alloc b4 _)).mono ?_
    rintro e w5 ⟨rfl, hb5⟩
    obtain ⟨hc5, hf5, hs5⟩ := bcell hb5
    (try (refine cut_ (p := w.heap.size < w5.heap.size) ?_ ?_; (focus (refine hs5 _ ?_; first | assumption | omega | (simp [go_sem]; done) | (simp [go_sem]; omega))); intro hl5a))
    (try (refine cut_ (p := w.heap.size + 1 < w5.heap.size) ?_ ?_; (focus (refine hs5 _ ?_; first | assumption | omega | (simp [go_sem]; done) | (simp [go_sem]; omega))); intro hl5b))
    (try (refine cut_ (p := w.heap.size + 1 + 1 < w5.heap.size) ?_ ?_; (focus (refine hs5 _ ?_; first | assumption | omega | (simp [go_sem]; done) | (simp [go_sem]; omega))); intro hl5c))
    have g5 : w4.heap.size < w5.heap.size := hs5 _ (by simp [go_sem])
    have l5_0 : w5.cell? ⟨w.heap.size, 0, none⟩ = some (.slice A n c) := by simp [go_sem, hc5, hc4, hc3, hc2, hc1, *]
    have l5_1 : w5.cell? ⟨w.heap.size, 1, none⟩ = some (.int .i64 mo) := by simp [go_sem, hc5, hc4, hc3, hc2, hc1, *]
    have l5_2 : w5.cell? ⟨w.heap.size, 2, none⟩ = some (.int .i64 te) := by simp [go_sem, hc5, hc4, hc3, hc2, hc1, *]
    have l5_3 : w5.cell? ⟨w.heap.size, 3, none⟩ = some (.int .i64 ix) := by simp [go_sem, hc5, hc4, hc3, hc2, hc1, *]
    have l5_4 : w5.cell? ⟨w.heap.size, 4, none⟩ = some (.int .i64 da) := by simp [go_sem, hc5, hc4, hc3, hc2, hc1, *]
    have l5_5 : w5.cell? ⟨w.heap.size, 5, none⟩ = some (.int .i64 we) := by simp [go_sem, hc5, hc4, hc3, hc2, hc1, *]
    have l5_6 : w5.cell? ⟨w.heap.size, 6, none⟩ = some (.int .i64 wd) := by simp [go_sem, hc5, hc4, hc3, hc2, hc1, *]
    have k5_0 : w5.cell? ⟨w4.heap.size, 0, none⟩ = some (.slice (some ⟨w3.heap.size + 1 + 1 + 1, 0, none⟩) n n) := by simp [go_sem, hc5]
    have k5_1 : w5.cell? ⟨w4.heap.size, 1, none⟩ = some (.int .i64 mo) := by simp [go_sem, hc5]
    have k5_2 : w5.cell? ⟨w4.heap.size, 2, none⟩ = some (.int .i64 te) := by simp [go_sem, hc5]
    have k5_3 : w5.cell? ⟨w4.heap.size, 3, none⟩ = some (.int .i64 ix) := by simp [go_sem, hc5]
    have k5_4 : w5.cell? ⟨w4.heap.size, 4, none⟩ = some (.int .i64 da) := by simp [go_sem, hc5]
    have k5_5 : w5.cell? ⟨w4.heap.size, 5, none⟩ = some (.int .i64 we) := by simp [go_sem, hc5]
    have k5_6 : w5.cell? ⟨w4.heap.size, 6, none⟩ = some (.int .i64 wd) := by simp [go_sem, hc5]
    have d5 : Below w4.heap.size w4 w5 := by (repeat (first | with_reducible exact Below.refl _ _ | with_reducible refine below_alloc ?_ _ | with_reducible refine below_drewN ?_ _ | with_reducible refine Below.drew ?_ | ((with_reducible refine below_set ?_ ?_ _); rotate_left; (focus (first | (simp; done) | (simp; omega) | omega))) | with_reducible refine below_call ?_ (by assumption)))
    have b5 : Below w.heap.size w w5 := by clear d5; (repeat (first | with_reducible exact Below.refl _ _ | with_reducible refine below_alloc ?_ _ | with_reducible refine below_drewN ?_ _ | with_reducible refine Below.drew ?_ | ((with_reducible refine below_set ?_ ?_ _); rotate_left; (focus (first | (simp; done) | (simp; omega) | omega))) | with_reducible refine below_call ?_ (by assumption)))
    clear hc1 hf1 hs1 hb1 hc2 hf2 hs2 hb2 hc3 hf3 hs3 hb3 hc4 hf4 hs4 hb4 hc5 hf5 hs5 hb5
    go_wp2
    go_region_held3 (fun w' => w'.cell? ⟨w.heap.size, 0, none⟩ = some (.slice A n c) ∧ w'.cell? ⟨w.heap.size, 1, none⟩ = some (.int .i64 mo) ∧ w'.cell? ⟨w.heap.size, 2, none⟩ = some (.int .i64 te) ∧ w'.cell? ⟨w.heap.size, 3, none⟩ = some (.int .i64 ix) ∧ w'.cell? ⟨w.heap.size, 4, none⟩ = some (.int .i64 da) ∧ w'.cell? ⟨w.heap.size, 5, none⟩ = some (.int .i64 we) ∧ w'.cell? ⟨w.heap.size, 6, none⟩ = some (.int .i64 wd) ∧ w'.cell? ⟨w4.heap.size, 0, none⟩ = some (.slice (some ⟨w3.heap.size + 1 + 1 + 1, 0, none⟩) n n) ∧ w'.cell? ⟨w4.heap.size, 1, none⟩ = some (.int .i64 mo) ∧ w'.cell? ⟨w4.heap.size, 2, none⟩ = some (.int .i64 te) ∧ w'.cell? ⟨w4.heap.size, 3, none⟩ = some (.int .i64 ix) ∧ w'.cell? ⟨w4.heap.size, 4, none⟩ = some (.int .i64 da) ∧ w'.cell? ⟨w4.heap.size, 5, none⟩ = some (.int .i64 we) ∧ w'.cell? ⟨w4.heap.size, 6, none⟩ = some (.int .i64 wd) ∧ w.heap.size < w'.heap.size ∧ w4.heap.size < w'.heap.size ∧ Below w.heap.size w w' ∧ Below w4.heap.size w4 w')
      (first | ((try go_split_ands); (try dsimp only); refine ⟨?_, ?_, ?_, ?_, ?_, ?_, ?_, ?_, ?_, ?_, ?_, ?_, ?_, ?_, ?_, ?_, ?_, ?_⟩ <;> first | (exact cell_call (by assumption) (by assumption) (by assumption)) | (exact lt_call (by assumption) (by assumption)) | (exact below_call' (by assumption) (by assumption)) | (exact Below.drew (by assumption)) | (with_reducible assumption) | (simp; done) | (simp [*]; done) | ((repeat (first | with_reducible exact Below.refl _ _ | with_reducible refine below_alloc ?_ _ | with_reducible refine below_drewN ?_ _ | with_reducible refine Below.drew ?_ | ((with_reducible refine below_set ?_ ?_ _); rotate_left; (focus (first | (simp; done) | (simp; omega) | omega))) | with_reducible refine below_call ?_ (by assumption))); done) | omega))
      (first
        | (go_at_call 7; go_split_ands; refine (toPerpetual_any _ _ _ w.heap.size zs mo te ix da we wd _ (by exact Ints.below HI.out (by assumption)) (by exact Below.size (B := w.heap.size) (w := w) (by assumption)) hn').mono ?_; rintro e w6 ⟨rfl, ho6, hb6⟩; have O6 := Lib.hid ho6; clear ho6)
        | (go_at_call 9; go_split_ands; refine (eqPerpetual_same _ _ _ _ _ _ _ _ zs mo te ix da we wd _ (by exact Own.ints (Own.call O4.out (by assumption)) (Nat.le_refl _)) (by exact Own.ints O6.out (Nat.le_refl _)) (Nat.le_refl _) (Nat.le_refl _) hn hn).mono ?_; rintro e w7 ⟨rfl, hb7⟩))
    go_split_ands
    go_wp2
    go_ret
    exact ⟨rfl, by assumption⟩

theorem door_met (os : Os) (args : Array Value) : laidMetH Tryd.prog Rows.fnExactPerpetualTextRow.laid ((World.doorLaid Tryd.prog 400 os).forCall (fun _ _ => 0) ⟨#[], args, []⟩).memory :=
  laidMetH_of_parts3 (fuel := 8) (laidMet_of_run' 8 (by kernel_rfl) (by kernel_rfl)) (by kernel_rfl) (by kernel_rfl)
set_option maxRecDepth 100000 in
theorem lifted (os : Os) (started : os.Started) (H : Type) (enc : TypeId × Value → H) :
    ReturnsInHanded {} Tryd.checked os 3 .any (fun w args => (Rows.fnExactPerpetualTextSpec.pre enc Tryd.prog Tryd.f3 [] false w args ∧ laidMetH Tryd.prog Rows.fnExactPerpetualTextRow.laid w) ∧ sizedMet enc Tryd.prog Tryd.f3 (OpenSpec.ofChange Rows.fnExactPerpetualTextSpec) false w args)
      (Rows.fnExactPerpetualTextSpec.post enc Tryd.prog Tryd.f3 false true false false) := by
  refine returnsInHanded_of_change_and (C := Tryd.checked) (X := fun w _ => laidMetH Tryd.prog Rows.fnExactPerpetualTextRow.laid w) (fun _ _ _ hh h => h.of_heap hh) own started (by kernel_rfl) Tryd.func3
    (ChangeSpec.witness_shaped (enc := enc) (C := Tryd.checked) (os := os) (X := fun w _ => laidMetH Tryd.prog Rows.fnExactPerpetualTextRow.laid w) false (World.doorLaid Tryd.prog 400 os) #[.agg #[.slice none 0 0, .int .i64 0, .int .i64 0, .int .i64 0, .int .i64 0, .int .i64 0, .int .i64 0]] 8 rfl (World.shaped_of_RefB (by kernel_rfl) (by kernel_rfl)) (by kernel_rfl) (by kernel_rfl) (by kernel_rfl) (door_met os _)) ?_
  intro W base args ds gs before hval0 hW _ _ hL _
  have hval : ∀ (j : Nat) t v, Tryd.f3.params[j]? = some t → args[j]? = some v → Value.okWide Tryd.prog W .any base t v := hval0
  have hW' := hW
  obtain ⟨p, q, hA0, hV, rfl, hfz, hnd⟩ := hW
  have hA : DataW.TrodAll enc Tryd.prog W 0 (fun _ => true) true Tryd.f3.params.toList args.toList ds p := hA0
  rw [Tryd.params3] at hA hval
  obtain ⟨v0, vs0, d0, ds0, p0, q0, hargs, rfl, rfl, h0, r0⟩ := trodAll_cons hA
  obtain ⟨rfl, rfl, rfl⟩ := trodAll_nil r0
  obtain rfl : args = #[v0] := by cases args; simp_all
  obtain ⟨rfl, rfl⟩ := trodVars_none hV
  have k0 := h0
  have lt0 : ∀ x ∈ p0, x.block < W.heap.size := by obtain ⟨m, hm⟩ := k0; exact DataW.trod_lt m _ _ _ hm
  obtain ⟨A0, l0, c0, z0, mo0, te0, at0, da0, we0, wd0, rfl, R0, hw0⟩ := open_Perpetual (hval 0 24 v0 rfl rfl) h0
  clear hA0 hval0
  refine (walk A0 l0 c0 z0 mo0 te0 at0 da0 we0 wd0 W R0 hw0 (pow_of hL)).mono fun e W' ⟨he, bel⟩ => ?_
  subst he
  exact ⟨_, rfl, _, _, _, [], _, [], hW', trodAll_mk1 (shut_bool Tryd.underlying4 _), (trodAll_cons_mk (Below.trod laidOut (by kernel_rfl) (of_decide_eq_true (by kernel_rfl)) k0 bel lt0) trodAll_mk0), rfl, bel.frame _, fun h => by cases h⟩
theorem over : Rows.fnExactPerpetualTextRow.holds Tryd.pinned (OpenSpec.ofChange Rows.fnExactPerpetualTextSpec) :=
  OpenClaim.holds_of_wide 3 Tryd.f3 rfl rfl rfl rfl rfl rfl rfl ⟨rfl, rfl, rfl, rfl, rfl⟩ rfl rfl rfl rfl rfl (by kernel_rfl) Tryd.func3 (by kernel_rfl)
    (of_decide_eq_true (by kernel_rfl)) (by unfold Func.isWrapper; first | (rw [if_pos (by decide +kernel)]; kernel_rfl) | (rw [if_neg (by decide +kernel)]; exact ⟨rfl, rfl⟩))
    (fun os started H enc _ => lifted os started H enc)
theorem proved : Rows.FnExactPerpetualTextCardSaid :=
  Claim7.holds_tied_plain_at .later [] [.data, .data, .data] true Rows.fnExactPerpetualTextCard.stood.harness false
    over (fun _ h => by cases h) (by kernel_rfl) (fun _ h => by cases h) fnExactPerpetualText_row_tie rfl ⟨rfl, rfl⟩ (by kernel_rfl) rfl
    (fun f fn hf hfn => by
      obtain rfl : f = 3 := Option.some.inj ((show Tryd.prog.funcNamed Rows.fnExactPerpetualTextRow.func = some 3 by kernel_rfl).symm.trans hf) |>.symm
      obtain rfl : fn = Tryd.f3 := (Option.some.inj (Tryd.func3.symm.trans hfn)).symm
      exact ⟨by kernel_rfl, fun j t ht => by
        rw [Tryd.params3] at ht
        have hm : t ∈ [24] := by simpa using Array.mem_of_getElem? ht
        have hall : ([24].all fun u => !Tryd.prog.wantsStandIn u) = true := by kernel_rfl
        exact (show Tryd.prog.wantsStandIn t = false by simpa using List.all_eq_true.1 hall t hm)⟩)
    (by kernel_rfl)
#print axioms proved
end Go.Proofs.YthicmkilhakdiaaDoor.fnExactPerpetualText
