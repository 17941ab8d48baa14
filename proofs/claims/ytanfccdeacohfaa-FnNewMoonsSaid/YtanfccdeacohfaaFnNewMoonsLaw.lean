/- The law FnNewMoons returns true for all bytes: between two days of new moon there is a period, rounded down or up, and the next new moon is the first of the list. No conditions. -/
import Derived.Test.YtanfccdeacohfaaFloor
import Derived.Test.YtanfccdeacohfaaDrawMoon3
import Derived.Test.YtanfccdeacohfaaEasters
import Derived.Test.YtanfccdeacohfaaOpenBytes
import Derived.Test.YtanfccdeacohfaaLawKit
namespace Go.Proofs.Ytanfccdeacohfaa.fnNewMoons
open Go.ChangeShapes Go.WideShapes Go.ChangeAt Go.RowKit
set_option linter.unusedVariables false
set_option linter.unusedSimpArgs false
set_option maxHeartbeats 8000000 in
theorem walk (A : Option Addr) (n c : Nat) (w : World) (h : CameB w A n) :
    Calls Try.prog 12 #[.slice A n c] w fun e w' => e = .returned (.bool true) ∧ Below w.heap.size w w' := by
  obtain ⟨hb, hn⟩ := h
  by_cases hbig : (4096 : Int) < n
  · have hd : decide ((4096 : Int) < n) = true := by simpa using hbig
    have cF := fun W => f6big_any A n c W hn
    rw [hd] at cF
    have CF := Lib.hid cF
    clear cF hd hb
    go_enter Try.func12, Try.ntmps12
    go_wp2_with (go_at_call 23; refine (CF.out _).mono ?_; rintro e w' ⟨rfl, rfl⟩)
    go_ret
    exact ⟨rfl, by (repeat (first | with_reducible exact Below.refl _ _ | with_reducible refine below_alloc ?_ _ | with_reducible refine below_drewN ?_ _ | with_reducible refine Below.drew ?_ | ((with_reducible refine below_set ?_ ?_ _); rotate_left; (focus (first | (simp; done) | (simp; omega) | omega))) | with_reducible refine below_call ?_ (by assumption)))⟩
  have hd : decide ((4096 : Int) < n) = false := by simpa using hbig
  have cF := fun W => f6big_any A n c W hn
  rw [hd] at cF
  have CF := Lib.hid cF
  have HB := Lib.hid hb
  clear cF hd hb
  go_enter Try.func12, Try.ntmps12
  go_wp2_with (go_at_call 23; refine (CF.out _).mono ?_; rintro e w' ⟨rfl, rfl⟩)
  go_at_call 40
  refine (DrawNewMoons_any A n c _ HB.out (by omega)).mono ?_
  rintro e w1 ⟨⟨p, d, z, x, y, rfl, x0, x1, y0, y1⟩, hb1⟩
  have HB1 := Lib.hid hb1
  have z1 := hb1.size
  clear hb1
  have c1 := fun (w : World) => NewMoons_any p d z x y w
  have c2 := fun (w : World) => specNewMoons_any p d z x y w
  have hlen := newL_len p d z x y
  -- what is known of the list
  have hfacts : newC p d z x y ≠ 0 ∨ (newC p d z x y = 0 ∧ vMoon p d z = true ∧ (∀ i, i + 1 < (newL p d z x y).length → GapOk p d ((newL p d z x y).getD i 0) ((newL p d z x y).getD (i + 1) 0)) ∧ (∀ i, i < (newL p d z x y).length → -20000000 ≤ (newL p d z x y).getD i 0 ∧ (newL p d z x y).getD i 0 ≤ 20000000) ∧
      ∃ q : Int, nextT p d z x = .tuple #[.int .i64 q, .int .i64 0] ∧ ((newL p d z x y = [] ∧ y ≤ q) ∨ (0 < (newL p d z x y).length ∧ (newL p d z x y).getD 0 0 = q))) := by
    cases hv : vMoon p d z
    · left; rw [(new_bad hv).2]; decide
    · cases ho : okD x y
      · left; rw [(new_far hv ho).2]; decide
      · right
        have ho2 := ho
        simp only [okD, Bool.and_eq_true] at ho2
        have h1 := inB_yes ho2.2.2
        obtain ⟨m, hm⟩ := Int.eq_ofNat_of_zero_le h1.1
        obtain rfl : y = x + m := by omega
        obtain ⟨e1, e2⟩ := new_ok hv ho
        rw [e1, e2]
        refine ⟨rfl, rfl, (news_all hv m).1, fun i hi => ?_, x + nextI p d z x, next_ok hv ho2.1, ?_⟩
        · have hin := newsK_in p d z x m ((newsK p d z x m).getD i 0) (by rw [getD_of hi]; exact List.getElem_mem _)
          omega
        · rcases news_head hv m (a := x) with ⟨h0, hold⟩ | h0
          · exact .inl ⟨h0, by have := news_none hv hold; omega⟩
          · exact .inr h0
  rcases hfacts with hf | ⟨hf, hv, hgap, hin, q, hq, hhead⟩
  · generalize newL p d z x y = G at *
    generalize newC p d z x y = cd at *
    have C1 := Lib.hid c1
    have C2 := Lib.hid c2
    have HG := Lib.hid hlen
    have hcd : (cd != 0) = true := by simpa using hf
    clear c1 c2 hlen hf
    go_wp2_with fail
    go_at_call 27
    refine (C1.out _).mono ?_
    rintro e w2 ⟨L2, m2, d2, rfl, ho2, hb2⟩
    have hm2 : m2 ≤ 1048576 := by have := ho2.len; have := HG.out; omega
    have M0 : w2.cell? ⟨w1.heap.size, 0, none⟩ = some (.int .i64 p) := cell_call hb2 (by simp) (by simp)
    have M1 : w2.cell? ⟨w1.heap.size, 1, none⟩ = some (.int .i64 d) := cell_call hb2 (by simp) (by simp)
    have M2 : w2.cell? ⟨w1.heap.size, 2, none⟩ = some (.int .i64 z) := cell_call hb2 (by simp) (by simp)
    have z2 : w1.heap.size + 1 ≤ w2.heap.size := by have := hb2.size; simpa using this
    have B2 : Below w.heap.size w w2 := ((HB1.out).alloc z1 _).trans (hb2.mono (by simp; omega))
    have O2 := Lib.hid (OwnIn.of ho2)
    clear ho2 hb2
    go_wp2_with fail
    go_at_call 26
    refine (C2.out _).mono ?_
    rintro e w3 ⟨L3, m3, d3, rfl, ho3, hb3⟩
    have hm3 : m3 ≤ 1048576 := by have := ho3.len; have := HG.out; omega
    have O23 := Lib.hid (OwnIn.call O2.out hb3 (Nat.le_refl _))
    have O33 := Lib.hid (OwnIn.of ho3)
    have B3 : Below w.heap.size w w3 := B2.trans (hb3.mono (by omega))
    have z3 := hb3.size
    clear ho3 hb3 M0 M1 M2
    go_wp2_with fail
    go_at_call 41
    refine (f6same_same _ (OwnIn.ints O23.out (Nat.le_refl _)) (OwnIn.ints O33.out (Nat.le_refl _)) (by omega) (by omega)).mono ?_
    rintro e w4 ⟨rfl, mq, rfl⟩
    go_wp2
    go_ret
    exact ⟨rfl, below_drewN B3 _⟩
  · rw [hf] at c1 c2
    have hm := vMoon_yes hv
    have hvr : vRatio p d = true := by simp only [vMoon, Bool.and_eq_true] at hv; exact hv.1
    have cR := fun w => FloorRatio_any p d w hvr (by omega) (by omega) (by omega) (by omega)
    have cN := fun w => NextNewMoon_any p d z x w
    simp only [hq] at cN
    have hGap : ∀ i, i + 1 < (newL p d z x y).length → GapOk p d ((newL p d z x y).getD i 0) ((newL p d z x y).getD (i + 1) 0) := hgap
    unfold GapOk at hGap
    have hs : 2 ≤ p / d ∧ p / d ≤ 1000 := by
      constructor
      · rw [Int.le_ediv_iff_mul_le (by omega)]; omega
      · exact Int.ediv_le_of_le_mul (by omega) (by omega)
    generalize newL p d z x y = G at *
    generalize p / d = s at *
    have C1 := Lib.hid c1
    have C2 := Lib.hid c2
    have CR := Lib.hid cR
    have CN := Lib.hid cN
    have HG := Lib.hid hlen
    have HGap := Lib.hid hGap
    have HIn := Lib.hid hin
    have HHead := Lib.hid hhead
    have HD := Lib.hid hm
    clear c1 c2 hlen hf cR cN hgap hGap hin hhead hq hv hvr hm
    go_wp2_with fail
    go_at_call 27
    refine (C1.out _).mono ?_
    rintro e w2 ⟨L2, m2, d2, rfl, ho2, hb2⟩
    have hl2 : G.length = m2 := ho2.len
    have hm2 : m2 ≤ 1048576 := by have := HG.out; omega
    have HL := Lib.hid hl2
    have M0 : w2.cell? ⟨w1.heap.size, 0, none⟩ = some (.int .i64 p) := cell_call hb2 (by simp) (by simp)
    have M1 : w2.cell? ⟨w1.heap.size, 1, none⟩ = some (.int .i64 d) := cell_call hb2 (by simp) (by simp)
    have M2 : w2.cell? ⟨w1.heap.size, 2, none⟩ = some (.int .i64 z) := cell_call hb2 (by simp) (by simp)
    have z2 : w1.heap.size + 1 ≤ w2.heap.size := by have := hb2.size; simpa using this
    have z2' : w1.heap.size < w2.heap.size := by omega
    have B2 : Below w.heap.size w w2 := ((HB1.out).alloc z1 _).trans (hb2.mono (by simp; omega))
    have O2 := Lib.hid (OwnIn.of ho2)
    clear ho2 hb2 hl2
    go_wp2_with fail
    go_at_call 26
    refine (C2.out _).mono ?_
    rintro e w3 ⟨L3, m3, d3, rfl, ho3, hb3⟩
    have hm3 : m3 ≤ 1048576 := by have := ho3.len; have := HG.out; omega
    have O23 := Lib.hid (OwnIn.call O2.out hb3 (Nat.le_refl _))
    have O33 := Lib.hid (OwnIn.of ho3)
    have B3 : Below w.heap.size w w3 := B2.trans (hb3.mono (by omega))
    have z3 := hb3.size
    have N0 := cell_call hb3 z2' M0
    have N1 := cell_call hb3 z2' M1
    have N2 := cell_call hb3 z2' M2
    clear ho3 hb3 M0 M1 M2
    go_wp2_with fail
    go_at_call 41
    refine (f6same_same _ (OwnIn.ints O23.out (Nat.le_refl _)) (OwnIn.ints O33.out (Nat.le_refl _)) (by omega) (by omega)).mono ?_
    rintro e w4 ⟨rfl, mq, rfl⟩
    go_wp2_with fail
    go_at_call 42
    refine (CR.out _).mono ?_
    rintro e w5 ⟨rfl, hb5⟩
    have b5 : Below w3.heap.size w3 w5 := (below_drewN (Below.refl _ _) mq).trans hb5
    have z5 := b5.size
    have P0 := cell_call b5 (by simp; omega) N0
    have P1 := cell_call b5 (by simp; omega) N1
    have P2 := cell_call b5 (by simp; omega) N2
    have O5 := Lib.hid (OwnIn.call O23.out b5 z3)
    have B5 : Below w.heap.size w w5 := B3.trans (b5.mono (by omega))
    clear hb5 b5 N0 N1 N2 O33 O23 O2
    go_wp2
    go_loopw [11] (fun t wr => ∃ j : Nat, t = .int .i64 ((j : Int) + 1) ∧ (j ≤ m2) ∧ Below w5.heap.size w5 wr) (fun t _ => m2 + 1 - (intOf t).toNat)
    case atStart => exact ⟨0, rfl, Nat.zero_le _, Below.refl _ _⟩
    case round =>
      obtain ⟨j, rfl, hj, hBr⟩ := hrel
      have zr := hBr.size
      have Q0 := cell_call hBr (by simp; omega) P0
      have Q1 := cell_call hBr (by simp; omega) P1
      have Q2 := cell_call hBr (by simp; omega) P2
      have Or := Lib.hid (OwnIn.call O5.out hBr (by omega))
      have Br : Below w.heap.size w wr := B5.trans (hBr.mono (by omega))
      have HBr := Lib.hid hBr
      clear P0 P1 P2 hBr
      by_cases hlt : j + 1 < m2
      · have HI := OwnIn.ints Or.out (B := wr.heap.size) (by omega)
        obtain ⟨b, off, rfl, hbl, hc⟩ := HI.2 (by omega)
        have hx := hc j (by omega)
        have hy := hc (j + 1) hlt
        have gx := HIn.out j (by have := HL.out; omega)
        have gy := HIn.out (j + 1) (by have := HL.out; omega)
        have gg := HGap.out j (by have := HL.out; omega)
        obtain ⟨u, hu⟩ : ∃ u, G.getD j 0 = u := ⟨_, rfl⟩
        obtain ⟨v, hv⟩ : ∃ v, G.getD (j + 1) 0 = v := ⟨_, rfl⟩
        rw [hu] at hx gx gg
        rw [hv] at hy gy gg
        have i0 : (0 : Int) ≤ (j : Int) := Int.natCast_nonneg _
        have i1 : (j : Int) + 1 < (m2 : Int) := by omega
        have i2 : ((j : Int) + 1).toNat = j + 1 := by omega
        have i3 : IntKind.i64.wrap ((j : Int) + 1 - 1) = (j : Int) := by rw [Int.add_sub_cancel]; exact IntWalk.i64_in _ (by omega)
        have i4 : (0 : Int) ≤ (j : Int) + 1 := by omega
        have i5 : IntKind.i64.wrap (v - u) = v - u := IntWalk.i64_in _ (by omega)
        have i6 : (j : Int) < (m2 : Int) := by omega
        clear hc HI hu hv
        rcases gg with gg | ⟨gg, hd1⟩
        · have hne : ((v - u) != s) = false := by simp [gg]
          have HGG := Lib.hid gg
          clear gg
          go_wp2
          go_quiet (fail)
          go_wp2
          go_roundw
          case rel => exact ⟨j + 1, by go_num, by omega, by first | exact below_drewN HBr.out _ | exact HBr.out⟩
          case measure => simp [intOf]; omega
        · have hne : ((v - u) != s) = true := by rw [bne_iff_ne]; omega
          have hne2 : ((v - u) != s + 1) = false := by simp [gg]
          have hd2 : (d == 1) = false := by simpa using hd1
          have HGG := Lib.hid gg
          clear gg
          go_wp2
          go_quiet (fail)
          go_wp2
          go_roundw
          case rel => exact ⟨j + 1, by go_num, by omega, by first | exact below_drewN HBr.out _ | exact HBr.out⟩
          case measure => simp [intOf]; omega
      · have hnl : ¬ ((j : Int) + 1 < (m2 : Int)) := by omega
        have Qs : Below w.heap.size w wr := Br
        go_wp2_with fail
        go_at_call 20
        refine (CN.out _).mono ?_
        rintro e w6 ⟨rfl, hb6⟩
        have O6 := Lib.hid (OwnIn.call Or.out hb6 (by omega))
        have B6 : Below w.heap.size w w6 := Br.trans (hb6.mono (by omega))
        have z6 := hb6.size
        clear hb6 Q0 Q1 Q2
        by_cases hm0 : 0 < m2
        · have HI := OwnIn.ints O6.out (B := w6.heap.size) (by omega)
          obtain ⟨b, off, rfl, hbl, hc⟩ := HI.2 hm0
          have hx := hc 0 hm0
          have h0 : G.getD 0 0 = q := by
            rcases HHead.out with ⟨he, _⟩ | ⟨_, he⟩
            · have := HL.out; rw [he] at this; simp at this; omega
            · exact he
          rw [h0, Nat.add_zero] at hx
          have i1 : (0 : Int) < (m2 : Int) := by omega
          clear hc HI h0
          go_wp2
          go_ret
          exact ⟨ret_bool (by simp), B6⟩
        · have hyq : y ≤ q := by
            rcases HHead.out with ⟨_, he⟩ | ⟨he, _⟩
            · exact he
            · have := HL.out; omega
          have i1 : ¬ ((0 : Int) < (m2 : Int)) := by omega
          go_wp2
          go_ret
          exact ⟨ret_bool (by first | (simp; done) | (simp; omega)), B6⟩

set_option maxRecDepth 100000 in
theorem lifted (os : Os) (started : os.Started) (H : Type) (enc : TypeId × Value → H) :
    ReturnsInHanded {} Try.checked os 12 .any (Rows.fnNewMoonsSpec.pre6 enc Try.prog Try.f12 Rows.fnNewMoonsRow.domain false) (Rows.fnNewMoonsSpec.post enc Try.prog Try.f12 false true false false) := by
  refine returnsInHanded_of_change (C := Try.checked) own started (by kernel_rfl) Try.func12
    (ChangeSpec.witness6 (enc := enc) (C := Try.checked) false ⟨#[], #[.slice none 0 0], []⟩ 8 (by kernel_rfl) (by kernel_rfl) (by kernel_rfl) (by kernel_rfl)) ?_
  intro W base args ds gs before hval0 hW hcnd _
  have hval : ∀ (j : Nat) t v, Try.f12.params[j]? = some t → args[j]? = some v → Value.okWide Try.prog W .any base t v := hval0
  have hW' := hW
  obtain ⟨p, q, hA0, hV, rfl, hfz, hnd⟩ := hW
  have hA : DataW.TrodAll enc Try.prog W 0 (fun _ => true) true Try.f12.params.toList args.toList ds p := hA0
  rw [Try.params12] at hA hval
  obtain ⟨v0, vs0, d0, ds0, p0, q0, hargs, rfl, rfl, h0, r0⟩ := trodAll_cons hA
  obtain ⟨rfl, rfl, rfl⟩ := trodAll_nil r0
  obtain rfl : args = #[v0] := by cases args; simp_all
  obtain ⟨rfl, rfl⟩ := trodVars_none hV
  have k0 := h0
  have lt0 : ∀ x ∈ p0, x.block < W.heap.size := by obtain ⟨m, hm⟩ := k0; exact DataW.trod_lt m _ _ _ hm
  obtain ⟨A0, l0, c0, rfl, R0⟩ := open_Bytes (hval 0 38 v0 rfl rfl) h0
  clear hA0 hval0
  refine (walk A0 l0 c0 W R0).mono fun e W' ⟨he, bel⟩ => ?_
  subst he
  exact ⟨_, rfl, _, _, _, [], _, [], hW', trodAll_mk1 (shut_bool Try.underlying4 _), (trodAll_cons_mk (Below.trod laidOut (by kernel_rfl) (of_decide_eq_true (by kernel_rfl)) k0 bel lt0) trodAll_mk0), rfl, bel.frame _, fun h => by cases h⟩
theorem over : Rows.fnNewMoonsRow.holds Try.pinned (OpenSpec.ofChange Rows.fnNewMoonsSpec) :=
  OpenClaim.holds_of_wide 12 Try.f12 rfl rfl rfl rfl rfl rfl rfl ⟨rfl, rfl, rfl, rfl, rfl⟩ rfl rfl rfl rfl rfl (by kernel_rfl) Try.func12 (by kernel_rfl)
    (of_decide_eq_true (by kernel_rfl)) (by unfold Func.isWrapper; first | (rw [if_pos (by decide +kernel)]; kernel_rfl) | (rw [if_neg (by decide +kernel)]; exact ⟨rfl, rfl⟩))
    (fun os started H enc _ => lifted os started H enc)
theorem proved : Rows.FnNewMoonsSaid := over
#print axioms proved
end Go.Proofs.Ytanfccdeacohfaa.fnNewMoons
