/- The law FnLunations returns true for all bytes: two moon works differ by a day after the lunations that are returned, and not one lunation earlier. No conditions. -/
import Derived.Test.YtanfccdeacohfaaDrawTwo
import Derived.Test.YtanfccdeacohfaaLun3
import Derived.Test.YtanfccdeacohfaaEasters
import Derived.Test.YtanfccdeacohfaaOpenBytes
namespace Go.Proofs.Ytanfccdeacohfaa.fnLunations
open Go.ChangeShapes Go.WideShapes Go.ChangeAt Go.RowKit
set_option linter.unusedVariables false
set_option linter.unusedSimpArgs false
theorem gI_neg (x y : Int) : gI (-x) y = gI x y := by simp [gI, Int.gcd]
theorem redB_neg (x y : Int) : redB (-x) y = redB x y := by simp [redB, gI_neg]
theorem rD_neg (x y : Int) : rD (-x) y = rD x y := by simp [rD, redB_neg, redD, gI_neg]
theorem rN_neg (x y : Int) : (rN (-x) y).natAbs = (rN x y).natAbs := by
  unfold rN
  rw [redB_neg]
  split
  · unfold redN
    rw [gI_neg, Int.natAbs_neg]
    split <;> split <;> simp
  · rfl
theorem lun_symm (p d p' d' : Int) : lunT p' d' p d = lunT p d p' d' := by
  have e1 : dN p' d' p d = -(dN p d p' d') := by unfold dN; omega
  have e2 : d' * d = d * d' := Int.mul_comm _ _
  cases hv : (vRatio p d && vRatio p' d')
  · rw [lun_bad hv, lun_bad (by rw [Bool.and_comm]; exact hv)]
  · have hv' : (vRatio p' d' && vRatio p d) = true := by rw [Bool.and_comm]; exact hv
    by_cases he : p = p' ∧ d = d'
    · rw [lun_eq hv he, lun_eq hv' ⟨he.1.symm, he.2.symm⟩]
    · have he' : ¬ (p' = p ∧ d' = d) := fun h => he ⟨h.1.symm, h.2.symm⟩
      cases hr : redB (dN p d p' d') (d * d')
      · rw [lun_far hv he hr, lun_far hv' he' (by rw [e1, e2, redB_neg]; exact hr)]
      · rw [lun_ok hv he hr, lun_ok hv' he' (by rw [e1, e2, redB_neg]; exact hr), e1, e2, rD_neg, rN_neg]
theorem ceil_facts {D N : Int} (hN : 1 ≤ N) (hN2 : N ≤ 1000000000) (hD : 1 ≤ D) (hD2 : D ≤ 1000000000) :
    ∃ P Q : Int, (D + N - 1) / N * N = P ∧ ((D + N - 1) / N - 1) * N = Q ∧ D ≤ P ∧ Q < D ∧ 0 ≤ P ∧ P ≤ 2000000000 ∧ -1000000000 ≤ Q ∧ 0 ≤ (D + N - 1) / N ∧ (D + N - 1) / N ≤ 2000000000 := by
  have e := Int.mul_ediv_add_emod (D + N - 1) N
  have r0 := Int.emod_nonneg (D + N - 1) (show N ≠ 0 by omega)
  have r1 := Int.emod_lt_of_pos (D + N - 1) (show 0 < N by omega)
  have k0 := Int.ediv_nonneg (show 0 ≤ D + N - 1 by omega) (show 0 ≤ N by omega)
  have k1 := Int.ediv_le_self N (show 0 ≤ D + N - 1 by omega)
  generalize (D + N - 1) / N = K at *
  generalize (D + N - 1) % N = r at *
  rw [Int.mul_comm] at e
  refine ⟨K * N, (K - 1) * N, rfl, rfl, ?_, ?_, ?_, ?_, ?_, k0, by omega⟩
  · omega
  · rw [Int.sub_mul, Int.one_mul]; omega
  · exact Int.mul_nonneg k0 (by omega)
  · omega
  · rw [Int.sub_mul, Int.one_mul]; have := Int.mul_nonneg k0 (show 0 ≤ N by omega); omega
set_option maxHeartbeats 400000 in
theorem f6size_any (n : Int) (w : World) (h1 : -9223372036854775807 ≤ n) :
    Calls Try.prog 39 #[.int .i64 n] w fun e w' => e = .returned (.int .i64 (n.natAbs : Int)) ∧ w = w' := by
  by_cases hn : n < 0
  · go_enter Try.func39, Try.ntmps39
    go_wp2
    go_ret
    exact ⟨ret_int (by omega), rfl⟩
  · go_enter Try.func39, Try.ntmps39
    go_wp2
    go_ret
    exact ⟨ret_int (by omega), rfl⟩
theorem quiet_left {f : FuncId} {args : Array Value} {w : World} {n : Nat} {v : Value}
    (h : Calls Try.prog f args (w.drewN n) fun e w' => e = .returned v ∧ w.drewN n = w') : Calls Try.prog f args (w.drewN n) fun e w'' => e = .returned v ∧ ∃ m, w'' = w.drewN m :=
  h.mono fun _ _ ⟨he, hm⟩ => ⟨he, n, hm.symm⟩
set_option maxHeartbeats 8000000 in
theorem walk (A : Option Addr) (n c : Nat) (w : World) (h : CameB w A n) :
    Calls Try.prog 11 #[.slice A n c] w fun e w' => e = .returned (.bool true) ∧ Below w.heap.size w w' := by
  obtain ⟨hb, hn⟩ := h
  by_cases hbig : (4096 : Int) < n
  · have hd : decide ((4096 : Int) < n) = true := by simpa using hbig
    have cF := fun W => f6big_any A n c W hn
    rw [hd] at cF
    have CF := Lib.hid cF
    clear cF hd hb
    go_enter Try.func11, Try.ntmps11
    go_wp2_with (go_at_call 23; refine (CF.out _).mono ?_; rintro e w' ⟨rfl, rfl⟩)
    go_ret
    exact ⟨rfl, by (repeat (first | with_reducible exact Below.refl _ _ | with_reducible refine below_alloc ?_ _ | with_reducible refine below_drewN ?_ _ | with_reducible refine Below.drew ?_ | ((with_reducible refine below_set ?_ ?_ _); rotate_left; (focus (first | (simp; done) | (simp; omega) | omega))) | with_reducible refine below_call ?_ (by assumption)))⟩
  have hd : decide ((4096 : Int) < n) = false := by simpa using hbig
  have cF := fun W => f6big_any A n c W hn
  rw [hd] at cF
  have CF := Lib.hid cF
  have HB := Lib.hid hb
  clear cF hd hb
  go_enter Try.func11, Try.ntmps11
  go_wp2_with (go_at_call 23; refine (CF.out _).mono ?_; rintro e w' ⟨rfl, rfl⟩)
  go_at_call 37
  refine (DrawLunationsApart_any A n c _ HB.out (by omega)).mono ?_
  rintro e w1 ⟨⟨p, d, p', d', rfl⟩, hb1⟩
  have HB1 := Lib.hid hb1
  have z1 := hb1.size
  clear hb1
  have c1 := fun (w : World) => LunationsApart_any p d p' d' w
  have c2 := fun (w : World) => specLunationsApart_any p d p' d' w
  have c3 := fun (w : World) => LunationsApart_any p' d' p d w
  simp only [lun_symm p d p' d'] at c3
  have hfacts : (∃ v cd : Int, lunT p d p' d' = .tuple #[.int .i64 v, .int .i64 cd] ∧ (cd != 0) = true) ∨
      (∃ K x y N P Q : Int, lunT p d p' d' = .tuple #[.int .i64 K, .int .i64 0] ∧ (∀ w, Calls Try.prog 38 #[.agg #[.int .i64 p, .int .i64 d], .agg #[.int .i64 p', .int .i64 d']] w fun e w' => e = .returned (.tuple #[.agg #[.int .i64 x, .int .i64 y], .int .i64 0]) ∧ Below w.heap.size w w') ∧
        (∀ w, Calls Try.prog 39 #[.int .i64 x] w fun e w' => e = .returned (.int .i64 N) ∧ w = w') ∧ K * N = P ∧ (K - 1) * N = Q ∧ y ≤ P ∧ Q < y ∧ 0 ≤ P ∧ P ≤ 2000000000 ∧ -1000000000 ≤ Q ∧ 0 ≤ K ∧ K ≤ 2000000000 ∧ y ≤ 1000000000) := by
    cases hv : (vRatio p d && vRatio p' d')
    · exact .inl ⟨0, 1, lun_bad hv, by decide⟩
    · by_cases he : p = p' ∧ d = d'
      · exact .inl ⟨0, 3, lun_eq hv he, by decide⟩
      · cases hr : redB (dN p d p' d') (d * d')
        · exact .inl ⟨0, 2, lun_far hv he hr, by decide⟩
        · right
          have hv2 := hv
          rw [Bool.and_eq_true] at hv2
          have hbd := sub_bd hv2.1 hv2.2
          have hne : dN p d p' d' ≠ 0 := fun h0 => he (ratio_same hv2.1 hv2.2 h0)
          have hb := redB_bd hne (by omega) hr
          obtain ⟨P, Q, f1, f2, f3, f4, f5, f6, f7, f8, f9⟩ := ceil_facts (D := rD (dN p d p' d') (d * d')) (N := ((rN (dN p d p' d') (d * d')).natAbs : Int)) (by omega) (by omega) (by omega) (by omega)
          refine ⟨_, rN (dN p d p' d') (d * d'), rD (dN p d p' d') (d * d'), ((rN (dN p d p' d') (d * d')).natAbs : Int), P, Q, lun_ok hv he hr, fun w => ?_, fun w => f6size_any _ w (by omega), f1, f2, f3, f4, f5, f6, f7, f8, f9, by omega⟩
          have := SubRatio_any p d p' d' w hv2.1 hv2.2
          rwa [show rC (dN p d p' d') (d * d') = 0 by simp [rC, hr]] at this
  have boxes : ∀ (w2 : World), Below ((w1.alloc (.cells #[.int .i64 p, .int .i64 d] 27)).alloc (.cells #[.int .i64 p', .int .i64 d'] 27)).heap.size ((w1.alloc (.cells #[.int .i64 p, .int .i64 d] 27)).alloc (.cells #[.int .i64 p', .int .i64 d'] 27)) w2 →
      (w2.cell? ⟨w1.heap.size, 0, none⟩ = some (.int .i64 p) ∧ w2.cell? ⟨w1.heap.size, 1, none⟩ = some (.int .i64 d) ∧ w2.cell? ⟨w1.heap.size + 1, 0, none⟩ = some (.int .i64 p') ∧ w2.cell? ⟨w1.heap.size + 1, 1, none⟩ = some (.int .i64 d')) ∧ w1.heap.size + 1 < w2.heap.size := by
    intro w2 hb
    refine ⟨⟨cell_call hb (by simp; omega) (by simp [go_sem]), cell_call hb (by simp; omega) (by simp [go_sem]), cell_call hb (by simp) (by simp [go_sem]), cell_call hb (by simp) (by simp [go_sem])⟩, ?_⟩
    have := hb.size; simp at this; omega
  have BX := Lib.hid boxes
  clear boxes
  rcases hfacts with ⟨v, cd, hT, hcd⟩ | ⟨K, x, y, N, P, Q, hT, hS, hF, f1, f2, f3, f4, f5, f6, f7, f8, f9, f10⟩
  · rw [hT] at c1 c2 c3
    have C1 := Lib.hid c1
    have C2 := Lib.hid c2
    have C3 := Lib.hid c3
    clear c1 c2 c3 hT
    go_wp2_with fail
    go_at_call 33
    refine (C1.out _).mono ?_
    rintro e w2 ⟨rfl, hb2⟩
    obtain ⟨⟨A0, A1, B0, B1⟩, z2⟩ := BX.out w2 hb2
    have B2 : Below w.heap.size w w2 := ((HB1.out.alloc z1 _).alloc (by simp; omega) _).trans (hb2.mono (by simp; omega))
    have y2 : w1.heap.size < w2.heap.size := by omega
    clear hb2
    go_wp2_with fail
    go_at_call 31
    refine (C2.out _).mono ?_
    rintro e w3 ⟨rfl, hb3⟩
    have A0 := cell_call hb3 y2 A0
    have A1 := cell_call hb3 y2 A1
    have B0 := cell_call hb3 z2 B0
    have B1 := cell_call hb3 z2 B1
    have B3 : Below w.heap.size w w3 := B2.trans (hb3.mono B2.size)
    clear hb3
    go_wp2_with fail
    go_at_call 33
    refine (C3.out _).mono ?_
    rintro e w4 ⟨rfl, hb4⟩
    have B4 : Below w.heap.size w w4 := B3.trans (hb4.mono B3.size)
    clear hb4
    go_wp2
    go_ret
    exact ⟨rfl, B4⟩
  · rw [hT] at c1 c2 c3
    have C1 := Lib.hid c1
    have C2 := Lib.hid c2
    have C3 := Lib.hid c3
    have CS := Lib.hid hS
    have CF2 := Lib.hid hF
    have g1 : IntKind.i64.wrap (K * N) = P := by rw [f1]; exact IntWalk.i64_in _ (by omega)
    have g2 : IntKind.i64.wrap ((K - 1) * N) = Q := by rw [f2]; exact IntWalk.i64_in _ (by omega)
    have g3 : IntKind.i64.wrap (K - 1) = K - 1 := IntWalk.i64_in _ (by omega)
    have G1 := Lib.hid g1
    have G2 := Lib.hid g2
    have G3 := Lib.hid g3
    clear c1 c2 c3 hT hS hF f1 f2 g1 g2 g3
    go_wp2_with fail
    go_at_call 33
    refine (C1.out _).mono ?_
    rintro e w2 ⟨rfl, hb2⟩
    obtain ⟨⟨A0, A1, B0, B1⟩, z2⟩ := BX.out w2 hb2
    have B2 : Below w.heap.size w w2 := ((HB1.out.alloc z1 _).alloc (by simp; omega) _).trans (hb2.mono (by simp; omega))
    have y2 : w1.heap.size < w2.heap.size := by omega
    clear hb2
    go_wp2_with fail
    go_at_call 31
    refine (C2.out _).mono ?_
    rintro e w3 ⟨rfl, hb3⟩
    have A0 := cell_call hb3 y2 A0
    have A1 := cell_call hb3 y2 A1
    have B0 := cell_call hb3 z2 B0
    have B1 := cell_call hb3 z2 B1
    have B3 : Below w.heap.size w w3 := B2.trans (hb3.mono B2.size)
    have y3 := lt_call hb3 y2
    have z3 := lt_call hb3 z2
    clear hb3
    go_wp2_with fail
    go_at_call 33
    refine (C3.out _).mono ?_
    rintro e w4 ⟨rfl, hb4⟩
    have A0 := cell_call hb4 y3 A0
    have A1 := cell_call hb4 y3 A1
    have B0 := cell_call hb4 z3 B0
    have B1 := cell_call hb4 z3 B1
    have B4 : Below w.heap.size w w4 := B3.trans (hb4.mono B3.size)
    clear hb4
    go_wp2_with fail
    go_at_call 38
    refine (CS.out _).mono ?_
    rintro e w5 ⟨rfl, hb5⟩
    have B5 : Below w.heap.size w w5 := B4.trans (hb5.mono B4.size)
    have z5 := B5.size
    clear hb5 A0 A1 B0 B1
    have g1 := G1.out
    have g2 := G2.out
    have g3 := G3.out
    go_wp2
    go_quiet ((go_at_call 39; exact quiet_left (CF2.out _)))
    go_wp2
    go_ret
    exact ⟨rfl, by first | exact below_drewN (B5.alloc z5 _) _ | exact B5.alloc z5 _⟩

set_option maxRecDepth 100000 in
theorem lifted (os : Os) (started : os.Started) (H : Type) (enc : TypeId × Value → H) :
    ReturnsInHanded {} Try.checked os 11 .any (Rows.fnLunationsSpec.pre6 enc Try.prog Try.f11 Rows.fnLunationsRow.domain false) (Rows.fnLunationsSpec.post enc Try.prog Try.f11 false true false false) := by
  refine returnsInHanded_of_change (C := Try.checked) own started (by kernel_rfl) Try.func11
    (ChangeSpec.witness6 (enc := enc) (C := Try.checked) false ⟨#[], #[.slice none 0 0], []⟩ 8 (by kernel_rfl) (by kernel_rfl) (by kernel_rfl) (by kernel_rfl)) ?_
  intro W base args ds gs before hval0 hW hcnd _
  have hval : ∀ (j : Nat) t v, Try.f11.params[j]? = some t → args[j]? = some v → Value.okWide Try.prog W .any base t v := hval0
  have hW' := hW
  obtain ⟨p, q, hA0, hV, rfl, hfz, hnd⟩ := hW
  have hA : DataW.TrodAll enc Try.prog W 0 (fun _ => true) true Try.f11.params.toList args.toList ds p := hA0
  rw [Try.params11] at hA hval
  obtain ⟨v0, vs0, d0, ds0, p0, q0, hargs, rfl, rfl, h0, r0⟩ := trodAll_cons hA
  obtain ⟨rfl, rfl, rfl⟩ := trodAll_nil r0
  obtain rfl : args = #[v0] := by cases args; simp_all
  obtain ⟨rfl, rfl⟩ := trodVars_none hV
  have k0 := h0
  have lt0 : ∀ x ∈ p0, x.block < W.heap.size := by obtain ⟨m, hm⟩ := k0; exact DataW.trod_lt m _ _ _ hm
  obtain ⟨A0, l0, c0, rfl, R0⟩ := open_Bytes (hval 0 38 v0 rfl rfl) h0
  clear hA0 hval0
  refine (walk A0 l0 c0 W R0).mono fun e W' ⟨he, bel⟩ => ?_
  subst he
  exact ⟨_, rfl, _, _, _, [], _, [], hW', trodAll_mk1 (shut_bool Try.underlying4 _), (trodAll_cons_mk (Below.trod laidOut (by kernel_rfl) (of_decide_eq_true (by kernel_rfl)) k0 bel lt0) trodAll_mk0), rfl, bel.frame _, fun h => by cases h⟩
theorem over : Rows.fnLunationsRow.holds Try.pinned (OpenSpec.ofChange Rows.fnLunationsSpec) :=
  OpenClaim.holds_of_wide 11 Try.f11 rfl rfl rfl rfl rfl rfl rfl ⟨rfl, rfl, rfl, rfl, rfl⟩ rfl rfl rfl rfl rfl (by kernel_rfl) Try.func11 (by kernel_rfl)
    (of_decide_eq_true (by kernel_rfl)) (by unfold Func.isWrapper; first | (rw [if_pos (by decide +kernel)]; kernel_rfl) | (rw [if_neg (by decide +kernel)]; exact ⟨rfl, rfl⟩))
    (fun os started H enc _ => lifted os started H enc)
theorem proved : Rows.FnLunationsSaid := over
#print axioms proved
end Go.Proofs.Ytanfccdeacohfaa.fnLunations
