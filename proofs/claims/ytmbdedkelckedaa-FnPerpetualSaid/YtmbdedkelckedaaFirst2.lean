/- The program's FirstWrong: the walk. No conditions but that a cam has at most 2^20 levels, and a calendar at most 2^20 months and rules. -/
import Derived.Test.YtmbdedkelckedaaCore5
namespace Go.Proofs.Ytmbdedkelckedaa
open Go.RowKit
set_option linter.unusedVariables false
set_option linter.unusedSimpArgs false
set_option maxHeartbeats 4000000 in
theorem FirstWrong_any (nm : ByteArray) (A A' L : Option Addr) (n n' c c' l e B : Nat) (ms : List Mth) (rs : List Rul) (cw : Int) (zs : List Int) (mo te ix da we wd y m d nights : Int) (w : World) (h : Months w B A n ms) (h' : Rules w B A' n' rs) (hI : Ints w B L l zs) (hB : B ≤ w.heap.size) (hn : n ≤ c) (hc : c ≤ 9223372036854775807) (hn' : n' ≤ 1048576) (hl : l ≤ 1048576) (hmo : mo ≤ 9223372036854775807) :
    Calls Try.prog 9 #[.agg #[.string nm, .slice A n c, .slice A' n' c', .int .i64 cw], .agg #[.slice L l e, .int .i64 mo, .int .i64 te, .int .i64 ix, .int .i64 da, .int .i64 we, .int .i64 wd], .agg #[.int .i64 y, .int .i64 m, .int .i64 d], .int .i64 nights] w fun e w' => e = .returned (fwT nm n n' ms rs cw zs l mo te ix da we wd y m d nights) ∧ Below w.heap.size w w' := by
  have H := Lib.hid (Tri.more h hB)
  have H' := Lib.hid (Tri.more h' hB)
  have HI := Lib.hid (hI.more hB)
  have F0 := Lib.hid (FW.start (L := L) (l := l) (e := e) w 27 32 29 nm A A' n n' c c' cw mo te ix da we wd y m d)
  clear h h' hI
  have cV := fun (W : World) (hb : Below w.heap.size w W) => ValidCalendar_any nm A A' n n' c c' w.heap.size ms rs cw W (Tri.below H.out hb) (Tri.below H'.out hb) hb.size hn (by omega) (by omega)
  have cP := fun (W : World) (hb : Below w.heap.size w W) => ValidPerpetual_any L l e w.heap.size zs mo te ix da we wd W (Ints.below HI.out hb) hb.size hl
  cases v1 : vCal nm n n' ms rs cw
  · rw [fwT_1 (by rw [v1]; rfl)]
    rw [v1] at cV
    have CV := Lib.hid cV
    clear cV cP v1
    go_enter Try.func9, Try.ntmps9
    go_wp2_with fail
    go_at_call 30
    refine (CV.out _ F0.out.bl).mono ?_
    rintro e1 w1 ⟨rfl, hb1⟩
    have F1 := Lib.hid (F0.out.call hb1)
    clear hb1
    obtain ⟨q0, q1, q2, q3, q4, q5, q6, -⟩ := F1.out.wk
    go_wp2
    go_ret2
    exact ⟨rfl, F1.out.bl⟩
  rw [v1] at cV
  have CV := Lib.hid cV
  clear cV
  cases v2 : vPerp zs l mo te ix da we wd
  · rw [fwT_1 (by rw [v1, v2]; rfl)]
    rw [v2] at cP
    have CP := Lib.hid cP
    clear cP v1 v2
    go_enter Try.func9, Try.ntmps9
    go_wp2_with fail
    go_at_call 30
    refine (CV.out _ F0.out.bl).mono ?_
    rintro e1 w1 ⟨rfl, hb1⟩
    have F1 := Lib.hid (F0.out.call hb1)
    clear hb1
    obtain ⟨q0, q1, q2, q3, q4, q5, q6, -⟩ := F1.out.wk
    go_wp2_with fail
    go_at_call 31
    refine (CP.out _ F1.out.bl).mono ?_
    rintro e1 w2 ⟨rfl, hb2⟩
    have F2 := Lib.hid (F1.out.call hb2)
    clear hb2 q0 q1 q2 q3 q4 q5 q6
    obtain ⟨-, u0, u1, u2, u3⟩ := F2.out.cal
    obtain ⟨t0, t1, t2, -⟩ := F2.out.dt
    go_wp2
    go_ret2
    exact ⟨rfl, F2.out.bl⟩
  rw [v2] at cP
  have CP := Lib.hid cP
  have V12 : (vCal nm n n' ms rs cw && vPerp zs l mo te ix da we wd) = true := by rw [v1, v2]; rfl
  have V1 := Lib.hid v1
  have cD := fun (W : World) (hb : Below w.heap.size w W) => ValidDate_any nm A A' n n' c c' w.heap.size ms rs cw y m d W (Tri.below H.out hb) (Tri.below H'.out hb) hb.size hn (by omega) (by omega) V1.out
  cases v3 : dOk ms rs n n' y m d
  · rw [fwT_2 V12 (by rw [v3]; rfl)]
    rw [v3] at cD
    have CD := Lib.hid cD
    clear cP v1 v2 v3 V12 cD
    go_enter Try.func9, Try.ntmps9
    go_wp2_with fail
    go_at_call 30
    refine (CV.out _ F0.out.bl).mono ?_
    rintro e1 w1 ⟨rfl, hb1⟩
    have F1 := Lib.hid (F0.out.call hb1)
    clear hb1
    obtain ⟨q0, q1, q2, q3, q4, q5, q6, -⟩ := F1.out.wk
    go_wp2_with fail
    go_at_call 31
    refine (CP.out _ F1.out.bl).mono ?_
    rintro e1 w2 ⟨rfl, hb2⟩
    have F2 := Lib.hid (F1.out.call hb2)
    clear hb2 q0 q1 q2 q3 q4 q5 q6
    obtain ⟨-, u0, u1, u2, u3⟩ := F2.out.cal
    obtain ⟨t0, t1, t2, -⟩ := F2.out.dt
    go_wp2_with fail
    go_at_call 32
    refine (CD.out _ F2.out.bl).mono ?_
    rintro e1 w3 ⟨rfl, hb3⟩
    have F3 := Lib.hid (F2.out.call hb3)
    clear hb3 u0 u1 u2 u3 t0 t1 t2
    obtain ⟨t0, t1, t2, -⟩ := F3.out.dt
    obtain ⟨q0, q1, q2, q3, q4, q5, q6, -⟩ := F3.out.wk
    go_wp2
    go_ret2
    exact ⟨rfl, F3.out.bl⟩
  rw [v3] at cD
  have CD := Lib.hid cD
  clear cD
  cases v4 : inB nights 0 200000
  · rw [fwT_2 V12 (by rw [v3, v4]; rfl)]
    have Y := Lib.hid v4
    clear cP v1 v2 v3 V12 v4
    go_enter Try.func9, Try.ntmps9
    go_wp2_with fail
    go_at_call 30
    refine (CV.out _ F0.out.bl).mono ?_
    rintro e1 w1 ⟨rfl, hb1⟩
    have F1 := Lib.hid (F0.out.call hb1)
    clear hb1
    obtain ⟨q0, q1, q2, q3, q4, q5, q6, -⟩ := F1.out.wk
    go_wp2_with fail
    go_at_call 31
    refine (CP.out _ F1.out.bl).mono ?_
    rintro e1 w2 ⟨rfl, hb2⟩
    have F2 := Lib.hid (F1.out.call hb2)
    clear hb2 q0 q1 q2 q3 q4 q5 q6
    obtain ⟨-, u0, u1, u2, u3⟩ := F2.out.cal
    obtain ⟨t0, t1, t2, -⟩ := F2.out.dt
    go_wp2_with fail
    go_at_call 32
    refine (CD.out _ F2.out.bl).mono ?_
    rintro e1 w3 ⟨rfl, hb3⟩
    have F3 := Lib.hid (F2.out.call hb3)
    clear hb3 u0 u1 u2 u3 t0 t1 t2
    obtain ⟨t0, t1, t2, -⟩ := F3.out.dt
    obtain ⟨q0, q1, q2, q3, q4, q5, q6, -⟩ := F3.out.wk
    go_wp2_with (go_at_call 33; refine (within_val _ _ _ _ _ Y.out).mono ?_; rintro e w' ⟨rfl, rfl⟩)
    go_ret2
    exact ⟨rfl, F3.out.bl⟩
  have Y := Lib.hid v4
  obtain ⟨hv0, p1, p2, hte, hix, hda, hwe, hwd1, hwd2⟩ := vPerp_yes v2
  obtain ⟨k, rfl⟩ := Int.eq_ofNat_of_zero_le hix.1
  obtain ⟨N, rfl⟩ := Int.eq_ofNat_of_zero_le (inB_yes v4).1
  have V34 : (dOk ms rs n n' y m d && inB (N : Int) 0 200000) = true := by rw [v3, v4]; rfl
  have hN := (inB_yes v4).2
  have hk : k < l := by omega
  have hk1 : (k : Int) ≤ 1048576 := by omega
  have cS := fun (W : World) => shows_any (.slice L l e) k mo te da we wd m d W p1 hmo hk1
  cases v5 : showB mo (k : Int) da m d
  · rw [fwT_6 V12 V34 v5]
    rw [v5] at cS
    have CS := Lib.hid cS
    clear cP v1 v2 v3 V12 V34 v4 v5 cS
    go_enter Try.func9, Try.ntmps9
    go_wp2_with fail
    go_at_call 30
    refine (CV.out _ F0.out.bl).mono ?_
    rintro e1 w1 ⟨rfl, hb1⟩
    have F1 := Lib.hid (F0.out.call hb1)
    clear hb1
    obtain ⟨q0, q1, q2, q3, q4, q5, q6, -⟩ := F1.out.wk
    go_wp2_with fail
    go_at_call 31
    refine (CP.out _ F1.out.bl).mono ?_
    rintro e1 w2 ⟨rfl, hb2⟩
    have F2 := Lib.hid (F1.out.call hb2)
    clear hb2 q0 q1 q2 q3 q4 q5 q6
    obtain ⟨-, u0, u1, u2, u3⟩ := F2.out.cal
    obtain ⟨t0, t1, t2, -⟩ := F2.out.dt
    go_wp2_with fail
    go_at_call 32
    refine (CD.out _ F2.out.bl).mono ?_
    rintro e1 w3 ⟨rfl, hb3⟩
    have F3 := Lib.hid (F2.out.call hb3)
    clear hb3 u0 u1 u2 u3 t0 t1 t2
    obtain ⟨t0, t1, t2, -⟩ := F3.out.dt
    obtain ⟨q0, q1, q2, q3, q4, q5, q6, -⟩ := F3.out.wk
    go_wp2_with (first | (go_at_call 33; refine (within_val _ _ _ _ _ Y.out).mono ?_; rintro e w' ⟨rfl, rfl⟩) | fail)
    go_at_call 34
    refine (CS.out _).mono ?_
    rintro e1 w4 ⟨rfl, hb4⟩
    have B4 := (F3.out.call hb4).bl
    go_wp2
    go_ret2
    exact ⟨rfl, B4⟩
  rw [fwT_0 V12 V34 v5]
  rw [v5] at cS
  have CS := Lib.hid cS
  have HG0 : Hid (goodS l te we (k, da, wd)) := Lib.hid ⟨hk, hda.1, hda.2, hwd1, hwd2⟩
  have HDO := Lib.hid v3
  have HEV := Lib.hid (vCal_ev v1)
  have hn20 : n ≤ 20 := (vCal_yes v1).2.2.2.2.1.2
  have HNO := Lib.hid (fun (y m d : Int) (h : dOk ms rs n n' y m d = true) (hy : inB (nextY n (dayK ms rs n' y m) y m d) 0 9999 = true) => next_ok v1 h hy)
  have HBD := Lib.hid (fun (y m : Int) (h1 : 1 ≤ m) (h2 : m ≤ (n : Int)) => dayK_bd (y := y) v1 h1 h2)
  have HN := Lib.hid (fun (W : World) (g k : Nat) (da wd : Int) (hb : Below w.heap.size w W) (hW : Work W g (.slice L l e) mo te (k : Int) da we wd) (hs : goodS l te we (k, da, wd)) => midnight_any L l e w.heap.size g k zs mo te da we wd W (Ints.below HI.out hb) hb.size hW hs hl hte.1 hte.2 hwe.1 hwe.2)
  clear cP v1 v2 v3 V12 V34 v4 v5 cS
  go_enter Try.func9, Try.ntmps9
  go_wp2_with fail
  go_at_call 30
  refine (CV.out _ F0.out.bl).mono ?_
  rintro e1 w1 ⟨rfl, hb1⟩
  have F1 := Lib.hid (F0.out.call hb1)
  clear hb1
  obtain ⟨q0, q1, q2, q3, q4, q5, q6, -⟩ := F1.out.wk
  go_wp2_with fail
  go_at_call 31
  refine (CP.out _ F1.out.bl).mono ?_
  rintro e1 w2 ⟨rfl, hb2⟩
  have F2 := Lib.hid (F1.out.call hb2)
  clear hb2 q0 q1 q2 q3 q4 q5 q6
  obtain ⟨-, u0, u1, u2, u3⟩ := F2.out.cal
  obtain ⟨t0, t1, t2, -⟩ := F2.out.dt
  go_wp2_with fail
  go_at_call 32
  refine (CD.out _ F2.out.bl).mono ?_
  rintro e1 w3 ⟨rfl, hb3⟩
  have F3 := Lib.hid (F2.out.call hb3)
  clear hb3 u0 u1 u2 u3 t0 t1 t2
  obtain ⟨t0, t1, t2, -⟩ := F3.out.dt
  obtain ⟨q0, q1, q2, q3, q4, q5, q6, -⟩ := F3.out.wk
  go_wp2_with (first | (go_at_call 33; refine (within_val _ _ _ _ _ Y.out).mono ?_; rintro e w' ⟨rfl, rfl⟩) | fail)
  go_at_call 34
  refine (CS.out _).mono ?_
  rintro e1 w4 ⟨rfl, hb4⟩
  have F4 := Lib.hid (F3.out.call hb4)
  clear hb4 q0 q1 q2 q3 q4 q5 q6 t0 t1 t2
  go_wp2
  go_loopw [10] (fun t wr => ∃ (j K : Nat) (D V y' m' d' : Int), t = .int .i64 ((j + 1 : Nat) : Int) ∧ j ≤ N ∧ (K, D, V) = nightsS zs l te we j (k, da, wd) ∧ (y', m', d') = datesS ms rs n n' j (y, m, d) ∧ Hid (∀ i, 1 ≤ i → i ≤ j → stopB ms rs n n' zs l mo te we (k, da, wd) (y, m, d) i = false) ∧ Hid (FW w wr (w.heap.size + 1) nm A A' n n' c c' cw (.slice L l e) mo te (K : Int) D we V y' m' d') ∧ Hid (dOk ms rs n n' y' m' d' = true)) (fun t _ => N + 1 - (intOf t).toNat)
  case atStart => exact ⟨0, k, da, wd, y, m, d, rfl, Nat.zero_le _, rfl, rfl, Lib.hid (fun i h1 h2 => absurd h1 (by omega)), F4, HDO⟩
  case round =>
    obtain ⟨j, K, D, V, y', m', d', rfl, hj, hS, hT, HP, HF, HO⟩ := hrel
    have hgood : goodS l te we (K, D, V) := by rw [hS]; exact good_nights HG0.out j
    have hK1 : (K : Int) ≤ 1048576 := by have := hgood.1; simp only at this; omega
    have HS := Lib.hid hS
    have HT := Lib.hid hT
    obtain ⟨⟨y0, y1⟩, ⟨m1, m2⟩, d1, d2⟩ := dOk_yes HO.out
    have hbd := HBD.out y' m' m1 m2
    have BW := HF.out.bl
    clear hS hT
    by_cases hlt : j < N
    · have hm : ((j + 1 : Nat) : Int) ≤ (N : Int) := by omega
      have cX := fun (W : World) (hb : Below w.heap.size w W) => nextDate_any nm A A' n n' c c' w.heap.size ms rs cw y' m' d' W (Tri.below H.out hb) (Tri.below H'.out hb) hb.size (by omega) (by omega) HEV.out y0 y1 m1 m2 d1 (by omega)
      have HT1 : Hid (nextS ms rs n n' (y', m', d') = datesS ms rs n n' (j + 1) (y, m, d)) := Lib.hid (by show _ = nextS ms rs n n' (datesS ms rs n n' j (y, m, d)); rw [← HT.out])
      have hno := HNO.out y' m' d' HO.out
      have hYX : nextS ms rs n n' (y', m', d') = (nextY n (dayK ms rs n' y' m') y' m' d', nextM n (dayK ms rs n' y' m') m' d', nextD (dayK ms rs n' y' m') d') := rfl
      generalize nextY n (dayK ms rs n' y' m') y' m' d' = y2 at *
      generalize nextM n (dayK ms rs n' y' m') m' d' = m2' at *
      generalize nextD (dayK ms rs n' y' m') d' = d2' at *
      have CX := Lib.hid cX
      have HNX := Lib.hid hno
      have HYX := Lib.hid hYX
      clear cX hno hYX
      go_wp2_with fail
      go_at_call 35
      refine (HN.out _ _ K D V BW HF.out.wk hgood).mono ?_
      rintro e1 w5 ⟨rfl, hW5, hg5⟩
      have hS1 : nightS zs l te we (K, D, V) = nightsS zs l te we (j + 1) (k, da, wd) := by show _ = nightS zs l te we (nightsS zs l te we j (k, da, wd)); rw [← HS.out]
      have hg2 := good_night (zs := zs) hgood
      have F5' := HF.out.moved hW5 hg5 (by omega) (by omega)
      generalize hQ : nightS zs l te we (K, D, V) = Q at *
      obtain ⟨K2, D2, V2⟩ := Q
      simp only at F5' hg2 hS1
      have F5 := Lib.hid F5'
      have HS1 := Lib.hid hS1
      have hK2 : (K2 : Int) ≤ 1048576 := by have := hg2.1; simp only at this; omega
      clear F5' hW5 hg5 hQ hS1
      obtain ⟨-, u0, u1, u2, u3⟩ := F5.out.cal
      obtain ⟨t0, t1, t2, -⟩ := F5.out.dt
      go_wp2_with fail
      go_at_call 36
      refine (CX.out _ F5.out.bl).mono ?_
      rintro e1 w6 ⟨rfl, hb6⟩
      have F6 := Lib.hid (F5.out.call hb6)
      clear hb6 u0 u1 u2 u3 t0 t1 t2
      obtain ⟨t0, t1, t2, t3⟩ := F6.out.dt
      have f0 := t3 0
      have f1 := t3 1
      have f2 := t3 2
      clear t3
      go_wp2_with fail
      obtain ⟨W7, hW7⟩ : ∃ W, ((w6.setCell ⟨w.heap.size + 1 + 1, 0, none⟩ (.int .i64 y2)).setCell ⟨w.heap.size + 1 + 1, 1, none⟩ (.int .i64 m2')).setCell ⟨w.heap.size + 1 + 1, 2, none⟩ (.int .i64 d2') = W := ⟨_, rfl⟩
      have F7 := Lib.hid (hW7 ▸ F6.out.date (by omega) y2 m2' d2')
      rw [hW7]
      clear hW7 t0 t1 t2 f0 f1 f2
      obtain ⟨t0, t1, t2, -⟩ := F7.out.dt
      obtain ⟨q0, q1, q2, q3, q4, q5, q6, -⟩ := F7.out.wk
      have HT2 := Lib.hid (HT1.out.symm.trans HYX.out)
      go_at_call 37
      cases hy : inB y2 0 9999
      · have Y2 := Lib.hid hy
        have HE := Lib.hid (fw_end (zs := zs) (l := l) (mo := mo) (te := te) (we := we) (q := (k, da, wd)) (N := N) (show 1 ≤ j + 1 by omega) hlt (fun i h1 h2 => HP.out i h1 (by omega)) (by rw [HT2.out]; exact hy))
        clear hy
        refine (isYear_val _ _ _ Y2.out).mono ?_
        rintro e1 w8 ⟨rfl, rfl⟩
        go_wp2
        go_ret2
        exact ⟨ret_val' HE.out, F7.out.bl⟩
      · have Y2 := Lib.hid hy
        have hy' : inB (datesS ms rs n n' (j + 1) (y, m, d)).1 0 9999 = true := by rw [HT2.out]; exact hy
        have HO2 := Lib.hid (HNX.out hy)
        have cS2 := fun (W : World) => shows_any (.slice L l e) K2 mo te D2 we V2 m2' d2' W p1 hmo hK2
        refine (isYear_val _ _ _ Y2.out).mono ?_
        rintro e1 w8 ⟨rfl, rfl⟩
        cases hs : showB mo (K2 : Int) D2 m2' d2'
        · have HE := Lib.hid (fw_hit (N := N) (show 1 ≤ j + 1 by omega) hlt (fun i h1 h2 => HP.out i h1 (by omega)) hy' (by rw [← HS1.out, HT2.out]; exact hs))
          rw [hs] at cS2
          have CS2 := Lib.hid cS2
          clear hy hy' hs cS2
          go_wp2_with fail
          go_at_call 34
          refine (CS2.out _).mono ?_
          rintro e1 w9 ⟨rfl, hb9⟩
          have B9 := (F7.out.call hb9).bl
          go_wp2
          go_ret2
          exact ⟨ret_val' HE.out, B9⟩
        · have HE := Lib.hid (fw_go hy' (show showB mo ((nightsS zs l te we (j + 1) (k, da, wd)).1 : Int) (nightsS zs l te we (j + 1) (k, da, wd)).2.1 (datesS ms rs n n' (j + 1) (y, m, d)).2.1 (datesS ms rs n n' (j + 1) (y, m, d)).2.2 = true by rw [← HS1.out, HT2.out]; exact hs))
          rw [hs] at cS2
          have CS2 := Lib.hid cS2
          clear hy hy' hs cS2
          go_wp2_with fail
          go_at_call 34
          refine (CS2.out _).mono ?_
          rintro e1 w9 ⟨rfl, hb9⟩
          have F9 := Lib.hid (F7.out.call hb9)
          clear hb9
          go_wp2
          go_roundw
          case rel =>
            refine ⟨j + 1, K2, D2, V2, y2, m2', d2', by go_num, by omega, HS1.out, HT2.out.symm, Lib.hid (fun i h1 h2 => ?_), F9, HO2⟩
            by_cases e : i = j + 1
            · rw [e]; exact HE.out
            · exact HP.out i h1 (by omega)
          case measure => simp [intOf]; omega
    · have hm : ¬ (((j + 1 : Nat) : Int) ≤ (N : Int)) := by omega
      have HE := Lib.hid (fw_miss (zs := zs) (l := l) (mo := mo) (te := te) (we := we) (q := (k, da, wd)) (N := N) (fun i h1 h2 => HP.out i h1 (by omega)))
      go_wp2
      go_ret2
      exact ⟨ret_val' HE.out, BW⟩
end Go.Proofs.Ytmbdedkelckedaa
