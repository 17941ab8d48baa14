/- The law FnExactReadCountWheel returns true: the program's ReadCountWheel is the reference's, and its result is a new wheel. No conditions but that the listed variables read as listed. -/
import Derived.Test.YtlnoolnbpohjhaaDoorReadWheel
import Derived.Test.YtlnoolnbpohjhaaDoorHandedAnd
import Derived.Test.YtlnoolnbpohjhaaDoorLawKit
import Derived.Test.YtlnoolnbpohjhaaDoorCards
import Derived.Test.YtlnoolnbpohjhaaDoorTie
import Derived.ProofKit
import Derived.ChangeMaps5
import Derived.Lay
import Derived.LaidLaws
import Derived.OpenShut
import Derived.SevenTiedAt
import Derived.ChangeOld
namespace Go.Proofs.YtlnoolnbpohjhaaDoor.fnExactReadCountWheel
open Go.ChangeShapes Go.WideShapes Go.ChangeAt Go.RowKit Go.ChangeMaps
set_option linter.unusedVariables false
set_option linter.unusedSimpArgs false
theorem own : ownKnob Tryd.prog.godebug = none := by kernel_rfl
theorem laidOut : laidOutB Tryd.prog = true := by kernel_rfl
theorem star : "*" ++ "errors.errorString" = "*errors.errorString" := by decide
theorem row_only (u : TypeId) (h : Tryd.prog.typeName? 3 u = some "*errors.errorString") : u = 98 :=
  typeName_ptr_named (nm := "errors.errorString") (by rw [star]; kernel_rfl) (by kernel_rfl) (by decide) u (by rw [star]; exact h)
theorem lays {W : World} (h : laidMetH Tryd.prog Rows.fnExactReadCountWheelRow.laid W) (hs : W.ShapedOpen Tryd.prog) : ∃ m, Lays W m := by
  rw [MakeChecks.laidMetH_plain _ _ _ (by kernel_rfl)] at h
  have h2 := laidMet.tail (laidMet.tail h)
  have h4 := laidMet.tail (laidMet.tail h2)
  have h5 := laidMet.tail h4
  have e : (Rows.laid_internal_strconv_uint64pow10 : DataW Unit) = Lib.tabData .u64 Lib.pow10Tab := by kernel_rfl
  rw [e] at h2
  obtain ⟨m, hm⟩ := maxlen_of hs
  refine ⟨m, lays_of ?_ ?_ ?_ hm⟩
  · exact Lib.tabIs_of_head (g := (Tryd.prog.globalNamed "internal/strconv.uint64pow10").getD 0) (by kernel_rfl) (by kernel_rfl) Tryd.underlying102 Tryd.underlying68 (by kernel_rfl) (by kernel_rfl) h2
  · obtain ⟨a0, s0, hv0, -, -, -⟩ := laid_sentinel (tp := 98) (te := 100) (ts := 9) (ti := 46) (g := (Tryd.prog.globalNamed "strconv.ErrSyntax").getD 0) h5 (by kernel_rfl) (by kernel_rfl) Tryd.underlying46 row_only Tryd.underlying98 Tryd.underlying100 rfl rfl Tryd.underlying9 (by kernel_rfl) (by kernel_rfl)
    exact ⟨_, _, hv0⟩
  · obtain ⟨a0, s0, hv0, -, -, -⟩ := laid_sentinel (tp := 98) (te := 100) (ts := 9) (ti := 46) (g := (Tryd.prog.globalNamed "strconv.ErrRange").getD 0) h4 (by kernel_rfl) (by kernel_rfl) Tryd.underlying46 row_only Tryd.underlying98 Tryd.underlying100 rfl rfl Tryd.underlying9 (by kernel_rfl) (by kernel_rfl)
    exact ⟨_, _, hv0⟩
set_option maxHeartbeats 8000000 in
theorem walk (s : ByteArray) (w : World) (hms : s.size ≤ maxLen) (LY : ∃ m, Lays w m) :
    Calls Tryd.prog 3 #[.string s] w fun e w' => e = .returned (.bool true) ∧ Below w.heap.size w w' := by
  by_cases hle : 1048576 < s.size
  · have hle2 : (1048576 : Int) < (s.size : Int) := by omega
    clear LY
    go_enter Tryd.func3, Tryd.ntmps3
    go_wp2
    go_ret
    exact ⟨rfl, Below.refl _ _⟩
  · have hs : s.size ≤ 1048576 := by omega
    have hle2 : ¬ ((1048576 : Int) < (s.size : Int)) := by omega
    obtain ⟨mx, LW⟩ := LY
    have c1 := fun (w : World) => specReadCountWheel_any s w hs
    have c2 := fun (w1 : World) (hb : Below w.heap.size w w1) => ReadCountWheel_any s mx w1 hs (LW.keep hb)
    unfold ReadWheel at c1 c2
    have hlen : (if vWheel (rdZ 45 s.data.toList) then rdZ 45 s.data.toList else []).length ≤ 24 := by
      cases hv : vWheel (rdZ 45 s.data.toList)
      · simp
      · have := (vWheel_yes hv).2.2; simpa using this
    generalize (if vWheel (rdZ 45 s.data.toList) then rdZ 45 s.data.toList else []) = G at *
    generalize vWheel (rdZ 45 s.data.toList) = ok at *
    have C1 := Lib.hid c1
    have C2 := Lib.hid c2
    have HG := Lib.hid hlen
    have k1 : (ok != ok) = false := by simp
    have k2 : (ok == ok) = true := by simp
    clear c1 c2 hlen LW
    go_enter Tryd.func3, Tryd.ntmps3
    go_wp2_with fail
    refine (C1.out _).mono ?_
    rintro e w1 ⟨L1, m1, k1, rfl, ho1, b1⟩
    have hm1 : m1 ≤ 24 := by have := ho1.len; have := HG.out; omega
    have O1 := Lib.hid (OwnIn.of ho1)
    have z1 : w.heap.size ≤ w1.heap.size := b1.size
    clear ho1
    go_wp2_with fail
    refine (C2.out _ (b1.alloc z1 _)).mono ?_
    rintro e w2 ⟨L2, m2, k2, rfl, ho2, b2⟩
    have hm2 : m2 ≤ 24 := by have := ho2.len; have := HG.out; omega
    have O2x2 : Hid (OwnIn w2 (w1.heap.size + 1) w2.heap.size L2 m2 k2 G) := Lib.hid (by simpa using OwnIn.of ho2)
    have g2 : w2.cell? ⟨w1.heap.size, 0, none⟩ = some (.slice L1 m1 k1) := by rw [b2.cell (p := ⟨w1.heap.size, 0, none⟩) (by simp)]; simp
    have z2 : w1.heap.size + 1 ≤ w2.heap.size := by have := b2.size; simpa using this
    have d2 : Below w1.heap.size w1 w2 := by (repeat (first | with_reducible exact Below.refl _ _ | with_reducible refine below_alloc ?_ _ | with_reducible refine below_drewN ?_ _ | with_reducible refine Below.drew ?_ | ((with_reducible refine below_set ?_ ?_ _); rotate_left; (focus (first | (simp; done) | (simp; omega) | omega))) | with_reducible refine below_call ?_ (by assumption)))
    have O1x2 := Lib.hid (OwnIn.call O1.out d2 (Nat.le_refl _))
    have B2 : Below w.heap.size w w2 := b1.trans (d2.mono (by omega))
    clear ho2 b2 d2 O1 b1
    have y2 : w1.heap.size < w2.heap.size := by omega
    go_wp2_with fail
    refine (eqCountWheel_same _ _ _ _ _ _ w2.heap.size w1.heap.size G _ (OwnIn.ints (OwnIn.call O2x2.out (by (repeat (first | with_reducible exact Below.refl _ _ | with_reducible refine below_alloc ?_ _ | with_reducible refine below_drewN ?_ _ | with_reducible refine Below.drew ?_ | ((with_reducible refine below_set ?_ ?_ _); rotate_left; (focus (first | (simp; done) | (simp; omega) | omega))) | with_reducible refine below_call ?_ (by assumption)))) (Nat.le_refl _)) (Nat.le_refl _)) (OwnIn.ints (OwnIn.call O1x2.out (by (repeat (first | with_reducible exact Below.refl _ _ | with_reducible refine below_alloc ?_ _ | with_reducible refine below_drewN ?_ _ | with_reducible refine Below.drew ?_ | ((with_reducible refine below_set ?_ ?_ _); rotate_left; (focus (first | (simp; done) | (simp; omega) | omega))) | with_reducible refine below_call ?_ (by assumption)))) (by omega)) (Nat.le_refl _)) (by simp) (by simp; omega) (by omega) (by omega)).mono ?_
    rintro e w3 ⟨rfl, hb3⟩
    have q3 : w3.cell? ⟨w2.heap.size, 0, none⟩ = some (.slice L2 m2 k2) := by rw [hb3.cell (p := ⟨w2.heap.size, 0, none⟩) (by simp)]; simp
    have d3 : Below w2.heap.size w2 w3 := by (repeat (first | with_reducible exact Below.refl _ _ | with_reducible refine below_alloc ?_ _ | with_reducible refine below_drewN ?_ _ | with_reducible refine Below.drew ?_ | ((with_reducible refine below_set ?_ ?_ _); rotate_left; (focus (first | (simp; done) | (simp; omega) | omega))) | with_reducible refine below_call ?_ (by assumption)))
    have g3 : w3.cell? ⟨w1.heap.size, 0, none⟩ = some (.slice L1 m1 k1) := cell_call d3 (p := ⟨w1.heap.size, 0, none⟩) (by simp; omega) g2
    have z3 : w2.heap.size + 1 ≤ w3.heap.size := by have := hb3.size; simpa using this
    have O1x3 := Lib.hid (OwnIn.call O1x2.out d3 (by omega))
    have O2x3 := Lib.hid (OwnIn.call O2x2.out d3 (by omega))
    have B3 : Below w.heap.size w w3 := B2.trans (d3.mono (by omega))
    clear hb3 d3 g2 O1x2 O2x2 B2
    go_wp2_with fail
    refine (markCountWheel_any _ _ _ _ _ G 1 _ O2x3.out (by omega) (by omega) (by omega) (by omega)).mono ?_
    rintro e w4 ⟨rfl, ho4, hg4⟩
    have q4 : w4.cell? ⟨w2.heap.size, 0, none⟩ = some (.slice L2 m2 k2) := OwnIn.cell O2x3.out hg4 q3 (.inr (by omega))
    have g4 : w4.cell? ⟨w1.heap.size, 0, none⟩ = some (.slice L1 m1 k1) := OwnIn.cell O2x3.out hg4 g3 (.inl (by omega))
    have B4 : Below w.heap.size w w4 := OwnIn.below O2x3.out B3 hg4 (by omega)
    have z4 : w3.heap.size ≤ w4.heap.size := hg4.size
    have O1x4 := Lib.hid (OwnIn.grown O1x3.out hg4 (fun g hg => .inr (by have := O2x3.out.blk g hg; omega)) (by omega))
    have O2x4 := Lib.hid ho4
    clear ho4 hg4 q3 g3 B3 O1x3 O2x3
    go_wp2_with fail
    refine (heldCountWheel_any _ _ _ w4.heap.size 1 _ (OwnIn.ints O2x4.out (by omega)) (Nat.le_refl _) (by omega) (by omega) (by omega)).mono ?_
    rintro e w5 ⟨rfl, b5⟩
    have q5 : w5.cell? ⟨w2.heap.size, 0, none⟩ = some (.slice L2 m2 k2) := cell_call b5 (p := ⟨w2.heap.size, 0, none⟩) (by simp; omega) q4
    have g5 : w5.cell? ⟨w1.heap.size, 0, none⟩ = some (.slice L1 m1 k1) := cell_call b5 (p := ⟨w1.heap.size, 0, none⟩) (by simp; omega) g4
    have B5 : Below w.heap.size w w5 := B4.trans (b5.mono (by omega))
    have z5 : w4.heap.size ≤ w5.heap.size := b5.size
    have O1x5 := Lib.hid (OwnIn.call O1x4.out b5 (by omega))
    have O2x5 := Lib.hid (OwnIn.call O2x4.out b5 (by omega))
    clear b5 q4 g4 B4 O1x4 O2x4
    go_wp2_with fail
    refine (C2.out _ B5).mono ?_
    rintro e w6 ⟨L6, m6, k6, rfl, ho6, b6⟩
    have hm6 : m6 ≤ 24 := by have := ho6.len; have := HG.out; omega
    have O6x6 := Lib.hid (OwnIn.of ho6)
    have q6 : w6.cell? ⟨w2.heap.size, 0, none⟩ = some (.slice L2 m2 k2) := cell_call b6 (p := ⟨w2.heap.size, 0, none⟩) (by simp; omega) q5
    have g6 : w6.cell? ⟨w1.heap.size, 0, none⟩ = some (.slice L1 m1 k1) := cell_call b6 (p := ⟨w1.heap.size, 0, none⟩) (by simp; omega) g5
    have B6 : Below w.heap.size w w6 := B5.trans (b6.mono (by omega))
    have z6 : w5.heap.size ≤ w6.heap.size := b6.size
    have O1x6 := Lib.hid (OwnIn.call O1x5.out b6 (by omega))
    have O2x6 := Lib.hid (OwnIn.call O2x5.out b6 (by omega))
    clear ho6 b6 q5 g5 B5 O1x5 O2x5
    have y6 : w1.heap.size < w6.heap.size := by omega
    have y7 : w2.heap.size < w6.heap.size := by omega
    go_wp2_with fail
    refine (eqCountWheel_same _ _ _ _ _ _ w6.heap.size w1.heap.size G _ (OwnIn.ints (OwnIn.call O6x6.out (by (repeat (first | with_reducible exact Below.refl _ _ | with_reducible refine below_alloc ?_ _ | with_reducible refine below_drewN ?_ _ | with_reducible refine Below.drew ?_ | ((with_reducible refine below_set ?_ ?_ _); rotate_left; (focus (first | (simp; done) | (simp; omega) | omega))) | with_reducible refine below_call ?_ (by assumption)))) (Nat.le_refl _)) (Nat.le_refl _)) (OwnIn.ints (OwnIn.call O1x6.out (by (repeat (first | with_reducible exact Below.refl _ _ | with_reducible refine below_alloc ?_ _ | with_reducible refine below_drewN ?_ _ | with_reducible refine Below.drew ?_ | ((with_reducible refine below_set ?_ ?_ _); rotate_left; (focus (first | (simp; done) | (simp; omega) | omega))) | with_reducible refine below_call ?_ (by assumption)))) (by omega)) (Nat.le_refl _)) (by simp) (by simp; omega) (by omega) (by omega)).mono ?_
    rintro e w7 ⟨rfl, hb7⟩
    have d7 : Below w6.heap.size w6 w7 := by (repeat (first | with_reducible exact Below.refl _ _ | with_reducible refine below_alloc ?_ _ | with_reducible refine below_drewN ?_ _ | with_reducible refine Below.drew ?_ | ((with_reducible refine below_set ?_ ?_ _); rotate_left; (focus (first | (simp; done) | (simp; omega) | omega))) | with_reducible refine below_call ?_ (by assumption)))
    have q7 : w7.cell? ⟨w2.heap.size, 0, none⟩ = some (.slice L2 m2 k2) := cell_call d7 (p := ⟨w2.heap.size, 0, none⟩) (by simp; omega) q6
    have B7 : Below w.heap.size w w7 := B6.trans (d7.mono (by omega))
    have z7 : w6.heap.size ≤ w7.heap.size := d7.size
    have O2x7 := Lib.hid (OwnIn.call O2x6.out d7 (by omega))
    clear hb7 d7 q6 g6 B6 O1x6 O2x6 O6x6
    go_wp2_with fail
    refine (heldCountWheel_any _ _ _ w7.heap.size 1 _ (OwnIn.ints O2x7.out (by omega)) (Nat.le_refl _) (by omega) (by omega) (by omega)).mono ?_
    rintro e w8 ⟨rfl, b8⟩
    go_wp2
    go_ret
    exact ⟨rfl, B7.trans (b8.mono (by omega))⟩
theorem door_met (os : Os) (args : Array Value) : laidMetH Tryd.prog Rows.fnExactReadCountWheelRow.laid ((World.laidAll Tryd.prog os Rows.fnExactReadCountWheelRow.laid).forCall (fun _ _ => 0) ⟨#[], args, []⟩).memory :=
  by rw [MakeChecks.laidMetH_plain _ _ _ (by kernel_rfl)]; exact laidMet_laidAll args (by kernel_rfl) (by kernel_rfl)
set_option maxRecDepth 100000 in
theorem lifted (os : Os) (started : os.Started) (H : Type) (enc : TypeId × Value → H) :
    ReturnsInHanded {} Tryd.checked os 3 .any (fun w args => (Rows.fnExactReadCountWheelSpec.pre enc Tryd.prog Tryd.f3 [] false w args ∧ laidMetH Tryd.prog Rows.fnExactReadCountWheelRow.laid w) ∧ sizedMet enc Tryd.prog Tryd.f3 (OpenSpec.ofChange Rows.fnExactReadCountWheelSpec) false w args)
      (Rows.fnExactReadCountWheelSpec.post enc Tryd.prog Tryd.f3 false true false false) := by
  refine handed_and_shaped (C := Tryd.checked) (X := fun w _ => laidMetH Tryd.prog Rows.fnExactReadCountWheelRow.laid w) (fun _ _ _ hh h => h.of_heap hh) own started (by kernel_rfl) Tryd.func3
    (ChangeSpec.witness_shaped (enc := enc) (C := Tryd.checked) (os := os) (X := fun w _ => laidMetH Tryd.prog Rows.fnExactReadCountWheelRow.laid w) false (World.laidAll Tryd.prog os Rows.fnExactReadCountWheelRow.laid) #[.string ByteArray.empty] 8 (World.laidAll_os _ _ _) (World.shaped_of_ZipB (by kernel_rfl) (by kernel_rfl)) (by kernel_rfl) (by kernel_rfl) (by kernel_rfl) (door_met os _)) ?_
  intro W base args ds gs before hval0 hW _ _ hL hsh _
  have hval : ∀ (j : Nat) t v, Tryd.f3.params[j]? = some t → args[j]? = some v → Value.okWide Tryd.prog W .any base t v := hval0
  have hW' := hW
  obtain ⟨p, q, hA0, hV, rfl, hfz, hnd⟩ := hW
  have hA : DataW.TrodAll enc Tryd.prog W 0 (fun _ => true) true Tryd.f3.params.toList args.toList ds p := hA0
  rw [Tryd.params3] at hA hval
  obtain ⟨v0, vs0, d0, ds0, p0, q0, hargs, rfl, rfl, h0, r0⟩ := trodAll_cons hA
  obtain ⟨rfl, rfl, rfl⟩ := trodAll_nil r0
  obtain rfl : args = #[v0] := by cases args; simp_all
  obtain ⟨rfl, rfl⟩ := trodVars_none hV
  have k0 := h0
  have lt0 : ∀ x ∈ p0, x.block < W.heap.size := by obtain ⟨m, hm⟩ := k0; exact DataW.trod_lt m _ _ _ hm
  obtain ⟨a0, rfl, _, _, wa0⟩ := open_string Tryd.underlying9 (hval 0 9 v0 rfl rfl) h0
  clear hA0 hval0
  refine (walk a0 W wa0 (lays hL hsh)).mono fun e W' ⟨he, bel⟩ => ?_
  subst he
  exact ⟨_, rfl, _, _, _, [], _, [], hW', trodAll_mk1 (shut_bool Tryd.underlying4 _), (trodAll_cons_mk (Below.trod laidOut (by kernel_rfl) (of_decide_eq_true (by kernel_rfl)) k0 bel lt0) trodAll_mk0), rfl, bel.frame _, fun h => by cases h⟩
theorem over : Rows.fnExactReadCountWheelRow.holds Tryd.pinned (OpenSpec.ofChange Rows.fnExactReadCountWheelSpec) :=
  OpenClaim.holds_of_wide 3 Tryd.f3 rfl rfl rfl rfl rfl rfl rfl ⟨rfl, rfl, rfl, rfl, rfl⟩ rfl rfl rfl rfl rfl (by kernel_rfl) Tryd.func3 (by kernel_rfl)
    (of_decide_eq_true (by kernel_rfl)) (by unfold Func.isWrapper; first | (rw [if_pos (by decide +kernel)]; kernel_rfl) | (rw [if_neg (by decide +kernel)]; exact ⟨rfl, rfl⟩))
    (fun os started H enc _ => lifted os started H enc)
theorem proved : Rows.FnExactReadCountWheelCardSaid :=
  Claim7.holds_tied_plain_at .later [] [.data, .data, .data, .data, .sentinel, .sentinel, .pinned] true Rows.fnExactReadCountWheelCard.stood.harness true
    over (fun _ h => by cases h) (by kernel_rfl) (fun _ h => by cases h) fnExactReadCountWheel_row_tie rfl ⟨rfl, rfl⟩ (by kernel_rfl) rfl
    (fun f fn hf hfn => by
      obtain rfl : f = 3 := Option.some.inj ((show Tryd.prog.funcNamed Rows.fnExactReadCountWheelRow.func = some 3 by kernel_rfl).symm.trans hf) |>.symm
      obtain rfl : fn = Tryd.f3 := (Option.some.inj (Tryd.func3.symm.trans hfn)).symm
      exact ⟨by kernel_rfl, fun j t ht => by
        rw [Tryd.params3] at ht
        have hm : t ∈ [9] := by simpa using Array.mem_of_getElem? ht
        have hall : ([9].all fun u => !Tryd.prog.wantsStandIn u) = true := by kernel_rfl
        exact (show Tryd.prog.wantsStandIn t = false by simpa using List.all_eq_true.1 hall t hm)⟩)
    (by kernel_rfl)
#print axioms proved
end Go.Proofs.YtlnoolnbpohjhaaDoor.fnExactReadCountWheel
