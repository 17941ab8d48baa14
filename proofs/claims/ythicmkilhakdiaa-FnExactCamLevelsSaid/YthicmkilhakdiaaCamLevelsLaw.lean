/- The law FnExactCamLevels returns true: the program's CamLevels is the reference's, its result is a new slice, and it leaves its argument as it was. No conditions. -/
import Derived.Test.YthicmkilhakdiaaLevels
import Derived.Test.YthicmkilhakdiaaMarkCap
import Derived.Test.YthicmkilhakdiaaLawKit
import Derived.Test.YthicmkilhakdiaaOpenInts
namespace Go.Proofs.Ythicmkilhakdiaa.fnExactCamLevels
open Go.ChangeShapes Go.WideShapes Go.ChangeAt Go.RowKit
set_option linter.unusedVariables false
set_option linter.unusedSimpArgs false
set_option maxHeartbeats 8000000 in
theorem walk (A : Option Addr) (n c : Nat) (zs : List Int) (w : World) (h : Came w A n c zs) :
    Calls Try.prog 3 #[.slice A n c] w fun e w' => e = .returned (.bool true) ∧ Below w.heap.size w w' := by
  obtain ⟨hI, hn, -⟩ := h
  by_cases hle : (1048576 : Int) < n
  · clear hI
    go_enter Try.func3, Try.ntmps3
    go_wp2
    go_ret
    exact ⟨rfl, by (repeat (first | with_reducible exact Below.refl _ _ | with_reducible refine below_alloc ?_ _ | with_reducible refine below_drewN ?_ _ | with_reducible refine Below.drew ?_ | ((with_reducible refine below_set ?_ ?_ _); rotate_left; (focus (first | (simp; done) | (simp; omega) | omega))) | with_reducible refine below_call ?_ (by assumption)))⟩
  · have hn' : n ≤ 1048576 := by omega
    have hlen := lvL_len zs (by rw [hI.len]; exact hn')
    have c1 := fun (A : Option Addr) (c B : Nat) (w : World) (h : Ints w B A n zs) (hB : B ≤ w.heap.size) => specCamLevels_any A n c B zs w h hB hn'
    have c2 := fun (A : Option Addr) (c B : Nat) (w : World) (h : Ints w B A n zs) (hB : B ≤ w.heap.size) => CamLevels_any A n c B zs w h hB hn'
    generalize lvL zs = G at *
    generalize lvC zs = cd0 at *
    have C1 := Lib.hid c1
    have C2 := Lib.hid c2
    have HI := Lib.hid hI
    have HG := Lib.hid hlen
    clear hI c1 c2 hlen
    go_enter Try.func3, Try.ntmps3
    go_wp2_with fail
    refine (toInt64S_any A n c w.heap.size zs _ HI.out (Nat.le_refl _) hn').mono ?_
    rintro e w1 ⟨rfl, ho1, b1⟩
    have O1x1 := Lib.hid (OwnIn.of ho1)
    have z1 : w.heap.size ≤ w1.heap.size := b1.size
    have B1 := b1
    clear ho1 b1
    go_wp2_with fail
    refine (C1.out _ _ _ _ (OwnIn.ints O1x1.out (Nat.le_refl _)) (Nat.le_refl _)).mono ?_
    rintro e w2 ⟨L2, m2, c2, rfl, ho2, b2⟩
    have O3x2 := Lib.hid (OwnIn.of ho2)
    have hm2 : m2 ≤ 1048576 := by have := ho2.len; have := HG.out; omega
    have z2 : w1.heap.size ≤ w2.heap.size := b2.size
    clear ho2 O1x1
    have B2 : Below w.heap.size w w2 := B1.trans (b2.mono (by omega))
    clear b2 B1 
    go_wp2_with fail
    refine (toInt64S_any A n c w.heap.size zs _ (Ints.below HI.out B2) (by omega) hn').mono ?_
    rintro e w3 ⟨rfl, ho3, b3⟩
    have O4x3 := Lib.hid (OwnIn.of ho3)
    have z3 : w2.heap.size ≤ w3.heap.size := b3.size
    clear ho3
    have O3x3 := Lib.hid (OwnIn.call O3x2.out b3 (by omega))
    have B3 : Below w.heap.size w w3 := B2.trans (b3.mono (by omega))
    clear b3 B2 O3x2
    go_wp2_with fail
    refine (C2.out _ _ _ _ (OwnIn.ints O4x3.out (Nat.le_refl _)) (Nat.le_refl _)).mono ?_
    rintro e w4 ⟨L4, m4, c4, d4, rfl, ho4, b4⟩
    have O5x4 := Lib.hid (OwnIn.of ho4)
    have hm4 : m4 ≤ 1048576 := by have := ho4.len; have := HG.out; omega
    have z4 : w3.heap.size ≤ w4.heap.size := b4.size
    clear ho4
    have O3x4 := Lib.hid (OwnIn.call O3x3.out b4 (by omega))
    have O4x4 := Lib.hid (OwnIn.call O4x3.out b4 (by omega))
    have B4 : Below w.heap.size w w4 := B3.trans (b4.mono (by omega))
    clear b4 B3 O3x3 O4x3
    go_wp2_with fail
    refine (eqInt64S_same' _ (OwnIn.ints O5x4.out (by omega) (B := w4.heap.size)) (OwnIn.ints O3x4.out (by omega) (B := w4.heap.size)) (by omega) (by omega)).mono ?_
    rintro e w5 ⟨rfl, hq5⟩
    have b5 : Below w4.heap.size w4 w5 := by obtain ⟨mq, rfl⟩ := hq5; exact below_drewN (Below.refl _ _) _
    have z5 : w4.heap.size ≤ w5.heap.size := b5.size
    clear hq5
    have O3x5 := Lib.hid (OwnIn.call O3x4.out b5 (by omega))
    have O4x5 := Lib.hid (OwnIn.call O4x4.out b5 (by omega))
    have O5x5 := Lib.hid (OwnIn.call O5x4.out b5 (by omega))
    have B5 : Below w.heap.size w w5 := B4.trans (b5.mono (by omega))
    clear b5 B4 O3x4 O4x4 O5x4
    go_wp2_with fail
    refine (toInt64S_any A n c w.heap.size zs _ (Ints.below HI.out B5) (by omega) hn').mono ?_
    rintro e w6 ⟨rfl, ho6, b6⟩
    have O7x6 := Lib.hid (OwnIn.of ho6)
    have z6 : w5.heap.size ≤ w6.heap.size := b6.size
    clear ho6
    have O3x6 := Lib.hid (OwnIn.call O3x5.out b6 (by omega))
    have O4x6 := Lib.hid (OwnIn.call O4x5.out b6 (by omega))
    have O5x6 := Lib.hid (OwnIn.call O5x5.out b6 (by omega))
    have B6 : Below w.heap.size w w6 := B5.trans (b6.mono (by omega))
    clear b6 B5 O3x5 O4x5 O5x5
    go_wp2_with fail
    refine (eqInt64S_same' _ (OwnIn.ints O4x6.out (by omega) (B := w6.heap.size)) (OwnIn.ints O7x6.out (by omega) (B := w6.heap.size)) (by omega) (by omega)).mono ?_
    rintro e w7 ⟨rfl, hq7⟩
    have b7 : Below w6.heap.size w6 w7 := by obtain ⟨mq, rfl⟩ := hq7; exact below_drewN (Below.refl _ _) _
    have z7 : w6.heap.size ≤ w7.heap.size := b7.size
    clear hq7
    clear O7x6
    have O3x7 := Lib.hid (OwnIn.call O3x6.out b7 (by omega))
    have O4x7 := Lib.hid (OwnIn.call O4x6.out b7 (by omega))
    have O5x7 := Lib.hid (OwnIn.call O5x6.out b7 (by omega))
    have B7 : Below w.heap.size w w7 := B6.trans (b7.mono (by omega))
    clear b7 B6 O3x6 O4x6 O5x6
    go_wp2_with fail
    refine (markInt64S_any _ _ _ _ zs 1 _ O4x7.out.1 hn' (by omega) (by omega)).mono ?_
    rintro e w8 ⟨rfl, ho8, hg8⟩
    have B8 : Below w.heap.size w w8 := OwnIn.below O4x7.out B7 hg8 (by omega)
    have z8 : w7.heap.size ≤ w8.heap.size := hg8.size
    have O3x8 := Lib.hid (OwnIn.grown O3x7.out hg8 (fun g hg => .inr (by have := O4x7.out.blk g hg; omega)) (by omega))
    have O5x8 := Lib.hid (OwnIn.grown O5x7.out hg8 (fun g hg => .inl (by have := O4x7.out.blk g hg; omega)) (by omega))
    clear ho8 hg8 B7 O3x7 O4x7 O5x7
    go_wp2_with fail
    refine (eqInt64S_same' _ (OwnIn.ints O5x8.out (by omega) (B := w8.heap.size)) (OwnIn.ints O3x8.out (by omega) (B := w8.heap.size)) (by omega) (by omega)).mono ?_
    rintro e w9 ⟨rfl, hq9⟩
    have b9 : Below w8.heap.size w8 w9 := by obtain ⟨mq, rfl⟩ := hq9; exact below_drewN (Below.refl _ _) _
    have z9 : w8.heap.size ≤ w9.heap.size := b9.size
    clear hq9
    have O3x9 := Lib.hid (OwnIn.call O3x8.out b9 (by omega))
    have O5x9 := Lib.hid (OwnIn.call O5x8.out b9 (by omega))
    have B9 : Below w.heap.size w w9 := B8.trans (b9.mono (by omega))
    clear b9 B8 O3x8 O5x8
    go_wp2_with fail
    refine (markInt64S_cap _ _ _ _ _ _ 1 _ O5x9.out.1 hm4 (by omega) (by omega)).mono ?_
    rintro e w10 ⟨rfl, ho10, hg10⟩
    have B10 : Below w.heap.size w w10 := OwnIn.below O5x9.out B9 hg10 (by omega)
    have z10 : w9.heap.size ≤ w10.heap.size := hg10.size
    have O3x10 := Lib.hid (OwnIn.grown O3x9.out hg10 (fun g hg => .inr (by have := O5x9.out.blk g hg; omega)) (by omega))
    have O6x10 := Lib.hid (OwnIn.self O5x9.out ho10)
    clear ho10 hg10 B9 O3x9 O5x9
    go_wp2_with fail
    refine (heldInt64S_any _ _ _ w10.heap.size 1 _ (OwnIn.ints O6x10.out (by omega)) hm4 (by omega) (by omega)).mono ?_
    rintro e w' ⟨rfl, rfl⟩
    go_wp2_with fail
    refine (toInt64S_any A n c w.heap.size zs _ (Ints.below HI.out B10) (by omega) hn').mono ?_
    rintro e w12 ⟨rfl, ho12, b12⟩
    have O8x12 := Lib.hid (OwnIn.of ho12)
    have z12 : w10.heap.size ≤ w12.heap.size := b12.size
    clear ho12
    have O3x12 := Lib.hid (OwnIn.call O3x10.out b12 (by omega))
    have O6x12 := Lib.hid (OwnIn.call O6x10.out b12 (by omega))
    have B12 : Below w.heap.size w w12 := B10.trans (b12.mono (by omega))
    clear b12 B10 O3x10 O6x10
    go_wp2_with fail
    refine (C2.out _ _ _ _ (OwnIn.ints O8x12.out (Nat.le_refl _)) (Nat.le_refl _)).mono ?_
    rintro e w13 ⟨L13, m13, c13, d13, rfl, ho13, b13⟩
    have O9x13 := Lib.hid (OwnIn.of ho13)
    have hm13 : m13 ≤ 1048576 := by have := ho13.len; have := HG.out; omega
    have z13 : w12.heap.size ≤ w13.heap.size := b13.size
    clear ho13 O8x12
    have O3x13 := Lib.hid (OwnIn.call O3x12.out b13 (by omega))
    have O6x13 := Lib.hid (OwnIn.call O6x12.out b13 (by omega))
    have B13 : Below w.heap.size w w13 := B12.trans (b13.mono (by omega))
    clear b13 B12 O3x12 O6x12
    go_wp2_with fail
    refine (eqInt64S_same' _ (OwnIn.ints O9x13.out (by omega) (B := w13.heap.size)) (OwnIn.ints O3x13.out (by omega) (B := w13.heap.size)) (by omega) (by omega)).mono ?_
    rintro e w14 ⟨rfl, hq14⟩
    have b14 : Below w13.heap.size w13 w14 := by obtain ⟨mq, rfl⟩ := hq14; exact below_drewN (Below.refl _ _) _
    have z14 : w13.heap.size ≤ w14.heap.size := b14.size
    clear hq14
    clear O9x13 
    have O3x14 := Lib.hid (OwnIn.call O3x13.out b14 (by omega))
    have O6x14 := Lib.hid (OwnIn.call O6x13.out b14 (by omega))
    have B14 : Below w.heap.size w w14 := B13.trans (b14.mono (by omega))
    clear b14 B13 O3x13 O6x13
    go_wp2_with fail
    refine (heldInt64S_any _ _ _ w14.heap.size 1 _ (OwnIn.ints O6x14.out (by omega)) hm4 (by omega) (by omega)).mono ?_
    rintro e w' ⟨rfl, rfl⟩
    go_wp2
    go_ret
    exact ⟨rfl, B14⟩

set_option maxRecDepth 100000 in
theorem lifted (os : Os) (started : os.Started) (H : Type) (enc : TypeId × Value → H) :
    ReturnsInHanded {} Try.checked os 3 .any (Rows.fnExactCamLevelsSpec.pre6 enc Try.prog Try.f3 Rows.fnExactCamLevelsRow.domain false) (Rows.fnExactCamLevelsSpec.post enc Try.prog Try.f3 false true false false) := by
  refine returnsInHanded_of_change (C := Try.checked) own started (by kernel_rfl) Try.func3
    (ChangeSpec.witness6 (enc := enc) (C := Try.checked) false ⟨#[], #[.slice none 0 0], []⟩ 8 (by kernel_rfl) (by kernel_rfl) (by kernel_rfl) (by kernel_rfl)) ?_
  intro W base args ds gs before hval0 hW hcnd _
  have hval : ∀ (j : Nat) t v, Try.f3.params[j]? = some t → args[j]? = some v → Value.okWide Try.prog W .any base t v := hval0
  have hW' := hW
  obtain ⟨p, q, hA0, hV, rfl, hfz, hnd⟩ := hW
  have hA : DataW.TrodAll enc Try.prog W 0 (fun _ => true) true Try.f3.params.toList args.toList ds p := hA0
  rw [Try.params3] at hA hval
  obtain ⟨v0, vs0, d0, ds0, p0, q0, hargs, rfl, rfl, h0, r0⟩ := trodAll_cons hA
  obtain ⟨rfl, rfl, rfl⟩ := trodAll_nil r0
  obtain rfl : args = #[v0] := by cases args; simp_all
  obtain ⟨rfl, rfl⟩ := trodVars_none hV
  have k0 := h0
  have lt0 : ∀ x ∈ p0, x.block < W.heap.size := by obtain ⟨m, hm⟩ := k0; exact DataW.trod_lt m _ _ _ hm
  obtain ⟨A0, l0, c0, z0, rfl, R0⟩ := open_Ints (hval 0 22 v0 rfl rfl) h0
  clear hA0 hval0
  refine (walk A0 l0 c0 z0 W R0).mono fun e W' ⟨he, bel⟩ => ?_
  subst he
  exact ⟨_, rfl, _, _, _, [], _, [], hW', trodAll_mk1 (shut_bool Try.underlying4 _), (trodAll_cons_mk (Below.trod laidOut (by kernel_rfl) (of_decide_eq_true (by kernel_rfl)) k0 bel lt0) trodAll_mk0), rfl, bel.frame _, fun h => by cases h⟩
theorem over : Rows.fnExactCamLevelsRow.holds Try.pinned (OpenSpec.ofChange Rows.fnExactCamLevelsSpec) :=
  OpenClaim.holds_of_wide 3 Try.f3 rfl rfl rfl rfl rfl rfl rfl ⟨rfl, rfl, rfl, rfl, rfl⟩ rfl rfl rfl rfl rfl (by kernel_rfl) Try.func3 (by kernel_rfl)
    (of_decide_eq_true (by kernel_rfl)) (by unfold Func.isWrapper; first | (rw [if_pos (by decide +kernel)]; kernel_rfl) | (rw [if_neg (by decide +kernel)]; exact ⟨rfl, rfl⟩))
    (fun os started H enc _ => lifted os started H enc)
theorem proved : Rows.FnExactCamLevelsSaid := over
#print axioms proved
end Go.Proofs.Ythicmkilhakdiaa.fnExactCamLevels
