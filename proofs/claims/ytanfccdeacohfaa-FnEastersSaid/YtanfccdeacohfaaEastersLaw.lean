/- The law FnEasters returns true for all bytes: Easter lies from March 22 to April 25, and there are whole weeks from one Easter to the next. No conditions. -/
import Derived.Test.YtanfccdeacohfaaEasters
import Derived.Test.YtanfccdeacohfaaOpenBytes
namespace Go.Proofs.Ytanfccdeacohfaa.fnEasters
open Go.ChangeShapes Go.WideShapes Go.ChangeAt Go.RowKit
set_option linter.unusedVariables false
set_option linter.unusedSimpArgs false
set_option maxHeartbeats 4000000 in
theorem walk (A : Option Addr) (n c : Nat) (w : World) (h : CameB w A n) :
    Calls Try.prog 7 #[.slice A n c] w fun e w' => e = .returned (.bool true) ∧ Below w.heap.size w w' := by
  obtain ⟨hb, hn⟩ := h
  by_cases hbig : (4096 : Int) < n
  · have hd : decide ((4096 : Int) < n) = true := by simpa using hbig
    have cF := fun W => f6big_any A n c W hn
    rw [hd] at cF
    have CF := Lib.hid cF
    clear cF hd hb
    go_enter Try.func7, Try.ntmps7
    go_wp2_with (go_at_call 23; refine (CF.out _).mono ?_; rintro e w' ⟨rfl, rfl⟩)
    go_ret
    exact ⟨rfl, by (repeat (first | with_reducible exact Below.refl _ _ | with_reducible refine below_alloc ?_ _ | with_reducible refine below_drewN ?_ _ | with_reducible refine Below.drew ?_ | ((with_reducible refine below_set ?_ ?_ _); rotate_left; (focus (first | (simp; done) | (simp; omega) | omega))) | with_reducible refine below_call ?_ (by assumption)))⟩
  · have hd : decide ((4096 : Int) < n) = false := by simpa using hbig
    have cF := fun W => f6big_any A n c W hn
    rw [hd] at cF
    have CF := Lib.hid cF
    have HB := Lib.hid hb
    clear cF hd hb
    go_enter Try.func7, Try.ntmps7
    go_wp2_with (go_at_call 23; refine (CF.out _).mono ?_; rintro e w' ⟨rfl, rfl⟩)
    go_at_call 24
    refine (DrawEasterOf_any A n c _ HB.out (by omega)).mono ?_
    rintro e w1 ⟨⟨y, rfl, y0, y1⟩, hb1⟩
    have HB1 := Lib.hid hb1
    clear hb1
    cases hy : inB y 1583 9999
    · have cE := fun W => EasterOf_any y W
      have cS := fun W => specEasterOf_any y W
      rw [← easter_none hy] at cE cS
      have CE := Lib.hid cE
      have CS := Lib.hid cS
      clear cE cS hy
      go_wp2_with fail
      go_at_call 18
      refine (CE.out _).mono ?_
      rintro e w' ⟨rfl, rfl⟩
      go_wp2_with fail
      go_at_call 17
      refine (CS.out _).mono ?_
      rintro e w' ⟨rfl, rfl⟩
      go_wp2
      go_ret
      exact ⟨rfl, HB1.out⟩
    · obtain ⟨M, d, hT, hC, d0, d1, hM⟩ := easter_civ hy
      have cE := fun W => EasterOf_any y W
      have cS := fun W => specEasterOf_any y W
      rw [hT] at cE cS
      have CE := Lib.hid cE
      have CS := Lib.hid cS
      have HC := Lib.hid hC
      have hy2 := inB_yes hy
      clear cE cS hT hC hy
      cases hz : inB (y + 1) 1583 9999
      · have e : y = 9999 := by have := inB_no hz; omega
        have cN := fun W => EasterOf_any (y + 1) W
        rw [← easter_none hz] at cN
        have CN := Lib.hid cN
        clear cN hz
        subst e
        rcases hM with ⟨rfl, h22⟩ | ⟨rfl, h25⟩
        all_goals
          go_wp2_with fail
          go_at_call 18
          refine (CE.out _).mono ?_
          rintro e w' ⟨rfl, rfl⟩
          go_wp2_with fail
          go_at_call 17
          refine (CS.out _).mono ?_
          rintro e w' ⟨rfl, rfl⟩
          go_wp2_with fail
          go_at_call 18
          refine (CN.out _).mono ?_
          rintro e w' ⟨rfl, rfl⟩
          go_wp2
          go_ret
          exact ⟨rfl, HB1.out⟩
      · obtain ⟨M', d', hT', hC', d0', d1', hM'⟩ := easter_civ hz
        have cN := fun W => EasterOf_any (y + 1) W
        rw [hT'] at cN
        have CN := Lib.hid cN
        have HC' := Lib.hid hC'
        have hz2 := inB_yes hz
        have hW := easter_next y hy2.1 (by omega)
        have cA := fun W => F6Civil_any (y + 1) M' d' W (by omega) (by omega) (by omega) (by omega) (by omega) (by omega)
        have cB := fun W => F6Civil_any y M d W (by omega) (by omega) (by omega) (by omega) (by omega) (by omega)
        rw [hC'] at cA
        rw [HC.out] at cB
        change (easterN (y + 1) - easterN y) % 7 = 0 ∧ 330 < easterN (y + 1) - easterN y ∧ easterN (y + 1) - easterN y < 400 at hW
        have hr : 0 ≤ easterN y ∧ easterN y ≤ 4000000 := by have := easter_bd y; unfold easterN; omega
        have hr' : 0 ≤ easterN (y + 1) ∧ easterN (y + 1) ≤ 4000000 := by have := easter_bd (y + 1); unfold easterN; omega
        generalize easterN (y + 1) = E' at *
        generalize easterN y = E at *
        obtain ⟨hW1, hW2, hW3⟩ := hW
        have ht : (E' - E).tmod 7 = (E' - E) % 7 := Int.tmod_eq_emod_of_nonneg (by omega)
        have CA := Lib.hid cA
        have CB := Lib.hid cB
        clear cN hT' hC' hz cA cB HC HC'
        rcases hM with ⟨rfl, h22⟩ | ⟨rfl, h25⟩
        all_goals
          go_wp2_with fail
          go_at_call 18
          refine (CE.out _).mono ?_
          rintro e w' ⟨rfl, rfl⟩
          go_wp2_with fail
          go_at_call 17
          refine (CS.out _).mono ?_
          rintro e w' ⟨rfl, rfl⟩
          go_wp2_with fail
          go_at_call 18
          refine (CN.out _).mono ?_
          rintro e w' ⟨rfl, rfl⟩
          go_wp2_with fail
          go_at_call 25
          refine (CA.out _).mono ?_
          rintro e w' ⟨rfl, rfl⟩
          go_wp2_with fail
          go_at_call 25
          refine (CB.out _).mono ?_
          rintro e w' ⟨rfl, rfl⟩
          go_wp2
          go_ret
          exact ⟨rfl, HB1.out⟩

set_option maxRecDepth 100000 in
theorem lifted (os : Os) (started : os.Started) (H : Type) (enc : TypeId × Value → H) :
    ReturnsInHanded {} Try.checked os 7 .any (Rows.fnEastersSpec.pre6 enc Try.prog Try.f7 Rows.fnEastersRow.domain false) (Rows.fnEastersSpec.post enc Try.prog Try.f7 false true false false) := by
  refine returnsInHanded_of_change (C := Try.checked) own started (by kernel_rfl) Try.func7
    (ChangeSpec.witness6 (enc := enc) (C := Try.checked) false ⟨#[], #[.slice none 0 0], []⟩ 8 (by kernel_rfl) (by kernel_rfl) (by kernel_rfl) (by kernel_rfl)) ?_
  intro W base args ds gs before hval0 hW hcnd _
  have hval : ∀ (j : Nat) t v, Try.f7.params[j]? = some t → args[j]? = some v → Value.okWide Try.prog W .any base t v := hval0
  have hW' := hW
  obtain ⟨p, q, hA0, hV, rfl, hfz, hnd⟩ := hW
  have hA : DataW.TrodAll enc Try.prog W 0 (fun _ => true) true Try.f7.params.toList args.toList ds p := hA0
  rw [Try.params7] at hA hval
  obtain ⟨v0, vs0, d0, ds0, p0, q0, hargs, rfl, rfl, h0, r0⟩ := trodAll_cons hA
  obtain ⟨rfl, rfl, rfl⟩ := trodAll_nil r0
  obtain rfl : args = #[v0] := by cases args; simp_all
  obtain ⟨rfl, rfl⟩ := trodVars_none hV
  have k0 := h0
  have lt0 : ∀ x ∈ p0, x.block < W.heap.size := by obtain ⟨m, hm⟩ := k0; exact DataW.trod_lt m _ _ _ hm
  obtain ⟨A0, l0, c0, rfl, R0⟩ := open_Bytes (hval 0 38 v0 rfl rfl) h0
  clear hA0 hval0
  refine (walk A0 l0 c0 W R0).mono fun e W' ⟨he, bel⟩ => ?_
  subst he
  exact ⟨_, rfl, _, _, _, [], _, [], hW', trodAll_mk1 (shut_bool Try.underlying4 _), (trodAll_cons_mk (Below.trod laidOut (by kernel_rfl) (of_decide_eq_true (by kernel_rfl)) k0 bel lt0) trodAll_mk0), rfl, bel.frame _, fun h => by cases h⟩
theorem over : Rows.fnEastersRow.holds Try.pinned (OpenSpec.ofChange Rows.fnEastersSpec) :=
  OpenClaim.holds_of_wide 7 Try.f7 rfl rfl rfl rfl rfl rfl rfl ⟨rfl, rfl, rfl, rfl, rfl⟩ rfl rfl rfl rfl rfl (by kernel_rfl) Try.func7 (by kernel_rfl)
    (of_decide_eq_true (by kernel_rfl)) (by unfold Func.isWrapper; first | (rw [if_pos (by decide +kernel)]; kernel_rfl) | (rw [if_neg (by decide +kernel)]; exact ⟨rfl, rfl⟩))
    (fun os started H enc _ => lifted os started H enc)
theorem proved : Rows.FnEastersSaid := over
#print axioms proved
end Go.Proofs.Ytanfccdeacohfaa.fnEasters
