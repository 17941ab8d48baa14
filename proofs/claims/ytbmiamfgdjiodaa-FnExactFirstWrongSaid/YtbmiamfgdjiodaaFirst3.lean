/- The reference's FirstWrong: the walk. No conditions but that a cam has at most 2^20 levels, and a calendar at most 2^20 months and rules. -/
import Derived.Test.YtbmiamfgdjiodaaFirst
namespace Go.Proofs.Ytbmiamfgdjiodaa
open Go.RowKit
set_option linter.unusedVariables false
set_option linter.unusedSimpArgs false
theorem FW.work {w W W' : World} {gp g2 : Nat} {nm : ByteArray} {A A' : Option Addr} {n n' c c' : Nat} {cw : Int} {S S2 : Value} {mo te ix da we wd y m d mo2 te2 ix2 da2 we2 wd2 : Int} (h : FW w W gp nm A A' n n' c c' cw S mo te ix da we wd y m d) (hW : Work W' g2 S2 mo2 te2 ix2 da2 we2 wd2) (hb : Below W.heap.size W W') : FW w W' g2 nm A A' n n' c c' cw S2 mo2 te2 ix2 da2 we2 wd2 y m d :=
  ⟨h.cal.call hb, hW, h.dt.call hb, h.bl.trans (hb.mono h.bl.size)⟩
set_option maxHeartbeats 4000000 in
theorem specFirstWrong_any (nm : ByteArray) (A A' L : Option Addr) (n n' c c' l e B : Nat) (ms : List Mth) (rs : List Rul) (cw : Int) (zs : List Int) (mo te ix da we wd y m d nights : Int) (w : World) (h : Months w B A n ms) (h' : Rules w B A' n' rs) (hI : Ints w B L l zs) (hB : B ≤ w.heap.size) (hn : n ≤ 1048576) (hn' : n' ≤ 1048576) (hl : l ≤ 1048576) (hmo : mo ≤ 9223372036854775807) (hw : ∀ j, j < n' → -9223372036854775808 ≤ (rs.getD j r0).ev) :
    Calls Try.prog 29 #[.agg #[.string nm, .slice A n c, .slice A' n' c', .int .i64 cw], .agg #[.slice L l e, .int .i64 mo, .int .i64 te, .int .i64 ix, .int .i64 da, .int .i64 we, .int .i64 wd], .agg #[.int .i64 y, .int .i64 m, .int .i64 d], .int .i64 nights] w fun e w' => e = .returned (fwT nm n n' ms rs cw zs l mo te ix da we wd y m d nights) ∧ Below w.heap.size w w' := by
  have H := Lib.hid (Tri.more h hB)
  have H' := Lib.hid (Tri.more h' hB)
  have HI := Lib.hid (hI.more hB)
  have F0 := Lib.hid (FW.start (L := L) (l := l) (e := e) w 33 50 53 nm A A' n n' c c' cw mo te ix da we wd y m d)
  clear h h' hI
  have cV := fun (W : World) (hC : CalAt W w.heap.size nm A A' n n' c c' cw) (hb : Below w.heap.size w W) => l15Ok_any w.heap.size nm A A' n n' c c' w.heap.size ms rs cw W hC (Tri.below H.out hb) (Tri.below H'.out hb) hb.size (by omega) (by omega) hw
  have cP := fun (W : World) (hb : Below w.heap.size w W) (h : Work W (w.heap.size + 1) (.slice L l e) mo te ix da we wd) => l18Ok_any L l e w.heap.size (w.heap.size + 1) zs mo te ix da we wd W (Ints.below HI.out hb) hb.size hl h.1 h.2.1 h.2.2.1 h.2.2.2.1 h.2.2.2.2.1 h.2.2.2.2.2.1 h.2.2.2.2.2.2.1
  cases v1 : vCal nm n n' ms rs cw
  · rw [fwT_1 (by rw [v1]; rfl)]
    rw [v1] at cV
    have CV := Lib.hid cV
    clear cV cP v1 hw
    go_enter Try.func29, Try.ntmps29
    go_wp2_with fail
    go_at_call 34
    refine (CV.out _ F0.out.cal F0.out.bl).mono ?_
    rintro e1 w1 ⟨rfl, hb1⟩
    have F1 := Lib.hid (F0.out.call hb1)
    clear hb1
    go_wp2
    go_ret2
    exact ⟨rfl, F1.out.bl⟩
  rw [v1] at cV
  have CV := Lib.hid cV
  clear cV
  cases v2 : vPerp zs l mo te ix da we wd
  · rw [fwT_1 (by rw [v1, v2]; rfl)]
    rw [v2] at cP
    have CP := Lib.hid cP
    clear cP v1 v2 hw
    go_enter Try.func29, Try.ntmps29
    go_wp2_with fail
    go_at_call 34
    refine (CV.out _ F0.out.cal F0.out.bl).mono ?_
    rintro e1 w1 ⟨rfl, hb1⟩
    have F1 := Lib.hid (F0.out.call hb1)
    clear hb1
    go_wp2_with fail
    go_at_call 68
    refine (CP.out _ F1.out.bl F1.out.wk).mono ?_
    rintro e1 w2 ⟨rfl, m2, rfl⟩
    have F2 := Lib.hid (F1.out.drewN m2)
    obtain ⟨t0, t1, t2, -⟩ := F2.out.dt
    go_wp2
    go_ret2
    exact ⟨rfl, F2.out.bl⟩
  rw [v2] at cP
  have CP := Lib.hid cP
  have V12 : (vCal nm n n' ms rs cw && vPerp zs l mo te ix da we wd) = true := by rw [v1, v2]; rfl
  have HEV := Lib.hid (vCal_ev v1)
  have cD := fun (W : World) (hC : CalAt W w.heap.size nm A A' n n' c c' cw) (hb : Below w.heap.size w W) => l16Ok_any w.heap.size nm A A' n n' c c' w.heap.size ms rs cw y m d W hC (Tri.below H.out hb) (Tri.below H'.out hb) hb.size (by omega) (by omega) HEV.out
  cases v3 : dOk ms rs n n' y m d
  · rw [fwT_2 V12 (by rw [v3]; rfl)]
    rw [v3] at cD
    have CD := Lib.hid cD
    clear cP v1 v2 v3 V12 cD hw
    go_enter Try.func29, Try.ntmps29
    go_wp2_with fail
    go_at_call 34
    refine (CV.out _ F0.out.cal F0.out.bl).mono ?_
    rintro e1 w1 ⟨rfl, hb1⟩
    have F1 := Lib.hid (F0.out.call hb1)
    clear hb1
    go_wp2_with fail
    go_at_call 68
    refine (CP.out _ F1.out.bl F1.out.wk).mono ?_
    rintro e1 w2 ⟨rfl, m2, rfl⟩
    have F2 := Lib.hid (F1.out.drewN m2)
    obtain ⟨t0, t1, t2, -⟩ := F2.out.dt
    go_wp2_with fail
    go_at_call 58
    refine (CD.out _ F2.out.cal F2.out.bl).mono ?_
    rintro e1 w3 ⟨rfl, hb3⟩
    have F3 := Lib.hid (F2.out.call hb3)
    clear hb3 t0 t1 t2
    obtain ⟨t0, t1, t2, -⟩ := F3.out.dt
    go_wp2
    go_ret2
    exact ⟨rfl, F3.out.bl⟩
  rw [v3] at cD
  have CD := Lib.hid cD
  clear cD
  cases v4 : inB nights 0 200000
  · rw [fwT_2 V12 (by rw [v3, v4]; rfl)]
    have Y := Lib.hid v4
    clear cP v1 v2 v3 V12 v4 hw
    go_enter Try.func29, Try.ntmps29
    go_wp2_with fail
    go_at_call 34
    refine (CV.out _ F0.out.cal F0.out.bl).mono ?_
    rintro e1 w1 ⟨rfl, hb1⟩
    have F1 := Lib.hid (F0.out.call hb1)
    clear hb1
    go_wp2_with fail
    go_at_call 68
    refine (CP.out _ F1.out.bl F1.out.wk).mono ?_
    rintro e1 w2 ⟨rfl, m2, rfl⟩
    have F2 := Lib.hid (F1.out.drewN m2)
    obtain ⟨t0, t1, t2, -⟩ := F2.out.dt
    go_wp2_with fail
    go_at_call 58
    refine (CD.out _ F2.out.cal F2.out.bl).mono ?_
    rintro e1 w3 ⟨rfl, hb3⟩
    have F3 := Lib.hid (F2.out.call hb3)
    clear hb3 t0 t1 t2
    obtain ⟨t0, t1, t2, -⟩ := F3.out.dt
    go_wp2_with (go_at_call 59; refine (l00In_val _ _ _ _ _ Y.out).mono ?_; rintro e w' ⟨rfl, rfl⟩)
    go_ret2
    exact ⟨rfl, F3.out.bl⟩
  have Y := Lib.hid v4
  obtain ⟨hv0, p1, p2, hte, hix, hda, hwe, hwd1, hwd2⟩ := vPerp_yes v2
  obtain ⟨k, rfl⟩ := Int.eq_ofNat_of_zero_le hix.1
  obtain ⟨N, rfl⟩ := Int.eq_ofNat_of_zero_le (inB_yes v4).1
  have V34 : (dOk ms rs n n' y m d && inB (N : Int) 0 200000) = true := by rw [v3, v4]; rfl
  have hN := (inB_yes v4).2
  have hk : k < l := by omega
  have hk1 : (k : Int) ≤ 1048576 := by omega
  have cS := fun (W : World) (h : Work W (w.heap.size + 1) (.slice L l e) mo te (k : Int) da we wd) => l18Shows_any (.slice L l e) (w.heap.size + 1) k mo te da we wd m d W h p1 hmo hk1
  cases v5 : showB mo (k : Int) da m d
  · rw [fwT_6 V12 V34 v5]
    rw [v5] at cS
    have CS := Lib.hid cS
    clear cP v1 v2 v3 V12 V34 v4 v5 cS hw
    go_enter Try.func29, Try.ntmps29
    go_wp2_with fail
    go_at_call 34
    refine (CV.out _ F0.out.cal F0.out.bl).mono ?_
    rintro e1 w1 ⟨rfl, hb1⟩
    have F1 := Lib.hid (F0.out.call hb1)
    clear hb1
    go_wp2_with fail
    go_at_call 68
    refine (CP.out _ F1.out.bl F1.out.wk).mono ?_
    rintro e1 w2 ⟨rfl, m2, rfl⟩
    have F2 := Lib.hid (F1.out.drewN m2)
    obtain ⟨t0, t1, t2, -⟩ := F2.out.dt
    go_wp2_with fail
    go_at_call 58
    refine (CD.out _ F2.out.cal F2.out.bl).mono ?_
    rintro e1 w3 ⟨rfl, hb3⟩
    have F3 := Lib.hid (F2.out.call hb3)
    clear hb3 t0 t1 t2
    obtain ⟨t0, t1, t2, -⟩ := F3.out.dt
    go_wp2_with (first | (go_at_call 59; refine (l00In_val _ _ _ _ _ Y.out).mono ?_; rintro e w' ⟨rfl, rfl⟩) | fail)
    go_at_call 69
    refine (CS.out _ F3.out.wk).mono ?_
    rintro e1 w4 ⟨rfl, m4, rfl⟩
    have B4 := (F3.out.drewN m4).bl
    go_wp2
    go_ret2
    exact ⟨rfl, B4⟩
  rw [fwT_0 V12 V34 v5]
  rw [v5] at cS
  have CS := Lib.hid cS
  have HG0 : Hid (goodS l te we (k, da, wd)) := Lib.hid ⟨hk, hda.1, hda.2, hwd1, hwd2⟩
  have HDO := Lib.hid v3
  have HNO := Lib.hid (fun (y m d : Int) (h : dOk ms rs n n' y m d = true) (hy : inB (nextY n (dayK ms rs n' y m) y m d) 0 9999 = true) => next_ok v1 h hy)
  have HBD := Lib.hid (fun (y m : Int) (h1 : 1 ≤ m) (h2 : m ≤ (n : Int)) => dayK_bd (y := y) v1 h1 h2)
  have HN := Lib.hid (fun (W : World) (A : Option Addr) (c g k : Nat) (da wd : Int) (h : Ints W W.heap.size A l zs) (hW : Work W g (.slice A l c) mo te (k : Int) da we wd) (hs : goodS l te we (k, da, wd)) => l18Night_any A l c W.heap.size g k zs mo te da we wd W h (Nat.le_refl _) hW hs hl hte.1 hte.2 hwe.1 hwe.2)
  have CO := Lib.hid (fun (W : World) (hb : Below w.heap.size w W) (hw : Work W (w.heap.size + 1) (.slice L l e) mo te (k : Int) da we wd) => l18Own_any L l e w.heap.size (w.heap.size + 1) zs mo te (k : Int) da we wd W (Ints.below HI.out hb) hb.size (by omega) hl hw)
  clear cP v1 v2 v3 V12 V34 v4 v5 cS hw
  go_enter Try.func29, Try.ntmps29
  go_wp2_with fail
  go_at_call 34
  refine (CV.out _ F0.out.cal F0.out.bl).mono ?_
  rintro e1 w1 ⟨rfl, hb1⟩
  have F1 := Lib.hid (F0.out.call hb1)
  clear hb1
  go_wp2_with fail
  go_at_call 68
  refine (CP.out _ F1.out.bl F1.out.wk).mono ?_
  rintro e1 w2 ⟨rfl, m2, rfl⟩
  have F2 := Lib.hid (F1.out.drewN m2)
  obtain ⟨t0, t1, t2, -⟩ := F2.out.dt
  go_wp2_with fail
  go_at_call 58
  refine (CD.out _ F2.out.cal F2.out.bl).mono ?_
  rintro e1 w3 ⟨rfl, hb3⟩
  have F3 := Lib.hid (F2.out.call hb3)
  clear hb3 t0 t1 t2
  obtain ⟨t0, t1, t2, -⟩ := F3.out.dt
  go_wp2_with (first | (go_at_call 59; refine (l00In_val _ _ _ _ _ Y.out).mono ?_; rintro e w' ⟨rfl, rfl⟩) | fail)
  go_at_call 69
  refine (CS.out _ F3.out.wk).mono ?_
  rintro e1 w4 ⟨rfl, m4, rfl⟩
  have F4 := Lib.hid (F3.out.drewN m4)
  clear t0 t1 t2
  go_wp2_with fail
  go_at_call 70
  refine (CO.out _ F4.out.bl F4.out.wk).mono ?_
  rintro e1 w5 ⟨L2, c2, rfl, ho5, hb5⟩
  have F5 := Lib.hid (F4.out.call hb5)
  have HO0 : Hid (OwnIn w5 (w3.drewN m4).heap.size w5.heap.size L2 l c2 zs) := Lib.hid (OwnIn.of ho5)
  have zz : w.heap.size + 1 + 1 < w5.heap.size := F5.out.dt.lt
  have zy : w.heap.size + 1 + 1 < (w3.drewN m4).heap.size := F4.out.dt.lt
  clear ho5 hb5
  go_wp2
  go_loopw [11] (fun t wr => ∃ (j K : Nat) (D V y' m' d' : Int), t = .int .i64 ((j + 1 : Nat) : Int) ∧ j ≤ N ∧ (K, D, V) = nightsS zs l te we j (k, da, wd) ∧ (y', m', d') = datesS ms rs n n' j (y, m, d) ∧ Hid (∀ i, 1 ≤ i → i ≤ j → stopB ms rs n n' zs l mo te we (k, da, wd) (y, m, d) i = false) ∧ Hid (FW w wr w5.heap.size nm A A' n n' c c' cw (.slice L2 l c2) mo te (K : Int) D we V y' m' d') ∧ Hid (dOk ms rs n n' y' m' d' = true) ∧ Hid (OwnIn wr (w3.drewN m4).heap.size w5.heap.size L2 l c2 zs)) (fun t _ => N + 1 - (intOf t).toNat)
  case atStart => exact ⟨0, k, da, wd, y, m, d, rfl, Nat.zero_le _, rfl, rfl, Lib.hid (fun i h1 h2 => absurd h1 (by omega)), Lib.hid (F5.out.work (work_new _ _ _ _ _ _ _ _ _) ((Below.refl _ _).alloc (Nat.le_refl _) _)), HDO, Lib.hid (HO0.out.call ((Below.refl _ _).alloc (Nat.le_refl _) _) (Nat.le_refl _))⟩
  case round =>
    obtain ⟨j, K, D, V, y', m', d', rfl, hj, hS, hT, HP, HF, HO, HR⟩ := hrel
    have hgood : goodS l te we (K, D, V) := by rw [hS]; exact good_nights HG0.out j
    have hK1 : (K : Int) ≤ 1048576 := by have := hgood.1; simp only at this; omega
    have HS := Lib.hid hS
    have HT := Lib.hid hT
    obtain ⟨⟨y0, y1⟩, ⟨m1, m2⟩, d1, d2⟩ := dOk_yes HO.out
    have hbd := HBD.out y' m' m1 m2
    have BW := HF.out.bl
    have zr : w5.heap.size < wr.heap.size := HF.out.wk.lt
    clear hS hT
    by_cases hlt : j < N
    · have hm : ((j + 1 : Nat) : Int) ≤ (N : Int) := by omega
      have cX := fun (W : World) (hC : CalAt W w.heap.size nm A A' n n' c c' cw) (hb : Below w.heap.size w W) => l18Next_any w.heap.size nm A A' n n' c c' w.heap.size ms rs cw y' m' d' W hC (Tri.below H.out hb) (Tri.below H'.out hb) hb.size (by omega) (by omega) HEV.out y0 y1 m1 m2 d1 (by omega)
      have HT1 : Hid (nextS ms rs n n' (y', m', d') = datesS ms rs n n' (j + 1) (y, m, d)) := Lib.hid (by show _ = nextS ms rs n n' (datesS ms rs n n' j (y, m, d)); rw [← HT.out])
      have hno := HNO.out y' m' d' HO.out
      have hYX : nextS ms rs n n' (y', m', d') = (nextY n (dayK ms rs n' y' m') y' m' d', nextM n (dayK ms rs n' y' m') m' d', nextD (dayK ms rs n' y' m') d') := rfl
      generalize nextY n (dayK ms rs n' y' m') y' m' d' = y2 at *
      generalize nextM n (dayK ms rs n' y' m') m' d' = m2' at *
      generalize nextD (dayK ms rs n' y' m') d' = d2' at *
      have HNX := Lib.hid hno
      have HYX := Lib.hid hYX
      have HT2 := Lib.hid (HT1.out.symm.trans HYX.out)
      have hS1 : nightS zs l te we (K, D, V) = nightsS zs l te we (j + 1) (k, da, wd) := by show _ = nightS zs l te we (nightsS zs l te we j (k, da, wd)); rw [← HS.out]
      have HSS := Lib.hid hS1
      clear hno hYX hS1
      obtain ⟨t0, t1, t2, -⟩ := HF.out.dt
      cases hy : inB y2 0 9999
      · have HE := Lib.hid (fw_end (zs := zs) (l := l) (mo := mo) (te := te) (we := we) (q := (k, da, wd)) (N := N) (show 1 ≤ j + 1 by omega) hlt (fun i h1 h2 => HP.out i h1 (by omega)) (by rw [HT2.out]; exact hy))
        rw [hy] at cX
        have CX := Lib.hid cX
        clear hy cX
        go_wp2_with fail
        go_at_call 71
        refine (CX.out _ HF.out.cal BW).mono ?_
        rintro e1 w6 ⟨rfl, hb6⟩
        have F6 := (HF.out.call hb6).bl
        clear hb6 t0 t1 t2
        go_wp2
        go_ret2
        exact ⟨ret_val' HE.out, by first | exact F6.alloc F6.size _ | exact (F6.alloc F6.size _).setCell (by simp; omega) _ | exact F6⟩
      · have hy' : inB (datesS ms rs n n' (j + 1) (y, m, d)).1 0 9999 = true := by rw [HT2.out]; exact hy
        have HO2 := Lib.hid (HNX.out hy)
        rw [hy] at cX
        have CX := Lib.hid cX
        clear cX
        go_wp2_with fail
        go_at_call 71
        refine (CX.out _ HF.out.cal BW).mono ?_
        rintro e1 w6 ⟨rfl, hb6⟩
        have F6 := Lib.hid (HF.out.call hb6)
        have HR6 := Lib.hid (HR.out.call hb6 (by omega))
        have z6 := hb6.size
        clear hb6 t0 t1 t2
        obtain ⟨t0, t1, t2, t3⟩ := F6.out.dt
        have f0 := t3 0
        have f1 := t3 1
        have f2 := t3 2
        clear t3
        have x1 : w.heap.size + 1 + 1 < w6.heap.size := by omega
        go_wp2_with fail
        obtain ⟨W7, hW7⟩ : ∃ W, (((w6.setCell ⟨w.heap.size + 1 + 1, 0, none⟩ (.int .i64 y2)).setCell ⟨w.heap.size + 1 + 1, 1, none⟩ (.int .i64 m2')).setCell ⟨w.heap.size + 1 + 1, 2, none⟩ (.int .i64 d2')).alloc (.cells #[.int .i64 y2, .int .i64 m2', .int .i64 d2'] 53) = W := ⟨_, rfl⟩
        have F7 := Lib.hid (hW7 ▸ (F6.out.date (by omega) y2 m2' d2').call ((Below.refl _ _).alloc (Nat.le_refl _) (.cells #[.int .i64 y2, .int .i64 m2', .int .i64 d2'] 53)))
        have HR7 : Hid (OwnIn W7 (w3.drewN m4).heap.size w5.heap.size L2 l c2 zs) := Lib.hid (hW7 ▸ HR6.out.keep (fun b h1 h2 => by
          rw [Below.heap_alloc _ _ _ (by simp; omega), Below.heap_setCell _ _ _ _ (by simp; omega), Below.heap_setCell _ _ _ _ (by simp; omega), Below.heap_setCell _ _ _ _ (by simp; omega)]))
        have z7 : w5.heap.size < W7.heap.size := F7.out.wk.lt
        rw [hW7]
        clear hW7 t0 t1 t2 f0 f1 f2
        go_at_call 72
        refine (HN.out _ L2 c2 w5.heap.size K D V (OwnIn.ints HR7.out (by omega)) F7.out.wk hgood).mono ?_
        rintro e1 w8 ⟨rfl, hW8, hg8⟩
        have hg2 := good_night (zs := zs) hgood
        have F8' := F7.out.moved hW8 hg8 (by omega) (by omega)
        have HR8 := Lib.hid (OwnIn.grown HR7.out hg8 (fun g hg => by cases hg; right; exact Nat.le_refl _) (by omega))
        generalize hQ : nightS zs l te we (K, D, V) = Q at *
        obtain ⟨K2, D2, V2⟩ := Q
        simp only at F8' hg2
        have F8 := Lib.hid F8'
        have HS1 := HSS
        have hK2 : (K2 : Int) ≤ 1048576 := by have := hg2.1; simp only at this; omega
        clear F8' hW8 hg8 hQ
        obtain ⟨t0, t1, t2, -⟩ := F8.out.dt
        have cS2 := fun (W : World) (h : Work W w5.heap.size (.slice L2 l c2) mo te (K2 : Int) D2 we V2) => l18Shows_any (.slice L2 l c2) w5.heap.size K2 mo te D2 we V2 m2' d2' W h p1 hmo hK2
        cases hs : showB mo (K2 : Int) D2 m2' d2'
        · have HE := Lib.hid (fw_hit (N := N) (show 1 ≤ j + 1 by omega) hlt (fun i h1 h2 => HP.out i h1 (by omega)) hy' (by rw [← HS1.out, HT2.out]; exact hs))
          rw [hs] at cS2
          have CS2 := Lib.hid cS2
          clear hy hy' hs cS2
          go_wp2_with fail
          go_at_call 69
          refine (CS2.out _ F8.out.wk).mono ?_
          rintro e1 w9 ⟨rfl, m9, rfl⟩
          have B9 := (F8.out.drewN m9).bl
          go_wp2
          go_ret2
          exact ⟨ret_val' HE.out, B9⟩
        · have HE := Lib.hid (fw_go hy' (show showB mo ((nightsS zs l te we (j + 1) (k, da, wd)).1 : Int) (nightsS zs l te we (j + 1) (k, da, wd)).2.1 (datesS ms rs n n' (j + 1) (y, m, d)).2.1 (datesS ms rs n n' (j + 1) (y, m, d)).2.2 = true by rw [← HS1.out, HT2.out]; exact hs))
          rw [hs] at cS2
          have CS2 := Lib.hid cS2
          clear hy hy' hs cS2
          go_wp2_with fail
          go_at_call 69
          refine (CS2.out _ F8.out.wk).mono ?_
          rintro e1 w9 ⟨rfl, m9, rfl⟩
          have F9 := Lib.hid (F8.out.drewN m9)
          have HR9 : Hid (OwnIn (w8.drewN m9) (w3.drewN m4).heap.size w5.heap.size L2 l c2 zs) := Lib.hid (HR8.out.keep (fun b _ _ => rfl))
          go_wp2
          go_roundw
          case rel =>
            refine ⟨j + 1, K2, D2, V2, y2, m2', d2', by go_num, by omega, HS1.out, HT2.out.symm, Lib.hid (fun i h1 h2 => ?_), F9, HO2, HR9⟩
            by_cases e : i = j + 1
            · rw [e]; exact HE.out
            · exact HP.out i h1 (by omega)
          case measure => simp [intOf]; omega
    · have hm : ¬ (((j + 1 : Nat) : Int) ≤ (N : Int)) := by omega
      have HE := Lib.hid (fw_miss (zs := zs) (l := l) (mo := mo) (te := te) (we := we) (q := (k, da, wd)) (N := N) (fun i h1 h2 => HP.out i h1 (by omega)))
      go_wp2
      go_ret2
      exact ⟨ret_val' HE.out, BW⟩
end Go.Proofs.Ytbmiamfgdjiodaa
