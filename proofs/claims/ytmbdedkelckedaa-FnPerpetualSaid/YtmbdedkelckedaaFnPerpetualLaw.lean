/- The law FnPerpetual returns true for all bytes: a work shows the right days up to the first wrong night, and not then. No conditions. -/
import Derived.Test.YtmbdedkelckedaaLawSt
import Derived.Test.YtmbdedkelckedaaFirst2
import Derived.Test.YtmbdedkelckedaaRun
import Derived.Test.YtmbdedkelckedaaUntil
namespace Go.Proofs.Ytmbdedkelckedaa.fnPerpetual
open Go.ChangeShapes Go.WideShapes Go.ChangeAt Go.RowKit
set_option linter.unusedVariables false
set_option linter.unusedSimpArgs false
set_option maxRecDepth 4000 in
set_option maxHeartbeats 4000000 in
theorem walk (A : Option Addr) (n c : Nat) (w : World) (h : CameB w A n) :
    Calls Try.prog 3 #[.slice A n c] w fun e w' => e = .returned (.bool true) ∧ Below w.heap.size w w' := by
  obtain ⟨hb, hn⟩ := h
  have cF := fun W => a2Long_any A none n 0 c 0 W hn (by omega)
  cases hd : (decide ((3000 : Int) < n) || decide ((3000 : Int) < (0 : Nat)))
  rotate_left
  · rw [hd] at cF
    have CF := Lib.hid cF
    clear cF hd hb
    go_enter Try.func3, Try.ntmps3
    go_wp2_with (go_at_call 6; refine (CF.out _).mono ?_; rintro e w' ⟨rfl, rfl⟩)
    go_ret
    exact ⟨rfl, by (repeat (first | with_reducible exact Below.refl _ _ | with_reducible refine below_alloc ?_ _ | with_reducible refine below_drewN ?_ _ | with_reducible refine Below.drew ?_ | ((with_reducible refine below_set ?_ ?_ _); rotate_left; (focus (first | (simp; done) | (simp; omega) | omega))) | with_reducible refine below_call ?_ (by assumption)))⟩
  have hbig0 : (n : Int) ≤ 3000 := by simpa using hd
  have hbig : n ≤ 3000 := by omega
  rw [hd] at cF
  have CF := Lib.hid cF
  have HB := Lib.hid hb
  clear cF hd hb
  go_enter Try.func3, Try.ntmps3
  go_wp2_with fail
  go_at_call 6
  refine (CF.out _).mono ?_
  rintro e w' ⟨rfl, rfl⟩
  go_wp2_with fail
  go_at_call 7
  refine (A2Perpetual_any A n c _ HB.out (by omega)).mono ?_
  rintro e w1 ⟨⟨nm, A1, A2, n1, n2, c1, c2, ms, rs, we, y, m, d, L, l, cc, zs, te, K, da, wd, rfl, t1, t2, hc1, hc2, hv, hdo, hz, hl, hcc, hvp⟩, B1⟩
  have F := Lib.hid (lw_new (nm := nm) (we := we) (y := y) (m := m) (d := d) (mo := (n1 : Int)) (te := te) (ix := (K : Int)) (da := da) (wd := wd) (c1 := c1) (c2 := c2) (cc := cc) w w1 27 29 32 t1 t2 hz B1)
  have hlen := hz.len
  obtain ⟨-, -, hn6, -, ⟨m1, m2⟩, we1, we2⟩ := vCal_yes hv
  have hvp2 := vPerp_yes hvp
  have hl260 := (vCam_yes hvp2.1).2
  rw [hlen] at hl260
  clear hz t1 t2 B1 HB hvp2
  unfold stV
  go_upto_region 4 with fail
  obtain ⟨w2, hw2⟩ : ∃ W, ((w1.alloc (.cells #[.string nm, .slice A1 n1 c1, .slice A2 n2 c2, .int .i64 we] 27)).alloc (.cells #[.int .i64 y, .int .i64 m, .int .i64 d] 29)).alloc (.cells #[.slice L l cc, .int .i64 (n1 : Int), .int .i64 te, .int .i64 (K : Int), .int .i64 da, .int .i64 we, .int .i64 wd] 32) = W := ⟨_, rfl⟩
  rw [hw2] at F ⊢
  obtain ⟨b, hbe⟩ : ∃ q, w1.heap.size = q := ⟨_, rfl⟩
  rw [hbe] at F ⊢
  clear hw2 hbe
  have HV := Lib.hid hv
  have HVP := Lib.hid hvp
  have HDO := Lib.hid hdo
  have CSD := Lib.hid (fun (W : World) (hI : Ints W W.heap.size L l zs) => specShowsDate_any L l cc W.heap.size zs (n1 : Int) te (K : Int) da we wd y m d W hI (Nat.le_refl _) (by omega) (by omega))
  have CFW := Lib.hid (fun (W : World) (hC : CalRd W b nm A1 A2 n1 n2 c1 c2 we ms rs) (hI : Ints W W.heap.size L l zs) => FirstWrong_any (e := cc) nm A1 A2 L n1 n2 c1 c2 l W.heap.size ms rs we zs (n1 : Int) te (K : Int) da we wd y m d ((2000 : Nat) : Int) W hC.m hC.r hI (Nat.le_refl _) hc1 hc2 (by omega) (by omega) (by omega))
  have CRU := Lib.hid (fun (W : World) (hI : Ints W W.heap.size L l zs) (j : Nat) (hj : j ≤ 200000) => (show Calls Try.prog 10 #[.agg #[.slice L l cc, .int .i64 (n1 : Int), .int .i64 te, .int .i64 (K : Int), .int .i64 da, .int .i64 we, .int .i64 wd], .int .i64 (j : Int)] W (NewPerp W (okP zs l (n1 : Int) te ((nightsS zs l te we j (K, da, wd)).1 : Int) (nightsS zs l te we j (K, da, wd)).2.1 we (nightsS zs l te we j (K, da, wd)).2.2)) by
    rw [← run_ok HVP.out hj]; exact RunPerpetual_any L l cc W.heap.size zs (n1 : Int) te (K : Int) da we wd (j : Int) W hI (Nat.le_refl _) (by omega)))
  have CAD := Lib.hid (fun (W : World) (hC : CalRd W b nm A1 A2 n1 n2 c1 c2 we ms rs) (j : Nat) (hj : j ≤ 2000) (hy : ∀ i, 1 ≤ i → i ≤ j → inB (datesS ms rs n1 n2 i (y, m, d)).1 0 9999 = true) =>
    specAddDays_any nm A1 A2 n1 n2 c1 c2 W.heap.size ms rs we y m d _ _ _ (j : Int) W hC.m hC.r (Nat.le_refl _) HV.out HDO.out (noK_dates HV.out (s := (y, m, d)) HDO.out j hy).1 (noK_dates HV.out (s := (y, m, d)) HDO.out j hy).2 (by omega) (by omega))
  have CSH := Lib.hid (fun (W : World) (L2 : Option Addr) (cc2 : Nat) (hI : Ints W W.heap.size L2 l zs) (s : Nat × Int × Int) (y m d : Int) => ShowsDate_any L2 l cc2 W.heap.size zs (n1 : Int) te (s.1 : Int) s.2.1 we s.2.2 y m d W hI (Nat.le_refl _) (by omega) (by omega))
  have HPS := Lib.hid (fun j => perp_state HVP.out (good_nights (zs := zs) (perp_good HVP.out) j))
  cases hs : showB (n1 : Int) (K : Int) da m d
  · have cS := CSD.out
    rw [show shT zs l (n1 : Int) te (K : Int) da we wd m d = false by unfold shT; rw [hs, Bool.and_false]] at cS
    have CS := Lib.hid cS
    clear cS hs CSD CFW CRU CAD CSH HPS hv hvp hdo
    obtain ⟨zc, u0, u1, u2, u3⟩ := F.out.cal.at_
    obtain ⟨t0, t1, t2, -⟩ := F.out.dt
    obtain ⟨p0, p1, p2, p3, p4, p5, p6, -⟩ := F.out.pb.wk
    have zd := F.out.dt.lt
    have zp := F.out.pb.wk.lt
    go_wp2_with fail
    go_at_call 8
    refine (CS.out _ F.out.pb.iz).mono ?_
    rintro e w3 ⟨rfl, hb3⟩
    have BL := Lib.hid (below_call F.out.bl hb3)
    clear hb3
    clear zc u0 u1 u2 u3 t0 t1 t2 p0 p1 p2 p3 p4 p5 p6 zd zp
    go_wp2
    go_ret
    exact ⟨rfl, BL.out⟩
  have cS := CSD.out
  rw [show shT zs l (n1 : Int) te (K : Int) da we wd m d = true by unfold shT; rw [hs, HVP.out]; rfl] at cS
  have CS := Lib.hid cS
  have hcase := fw_cases (N := 2000) (by omega) hv hvp hdo hs
  clear cS hs CSD hv hvp hdo
  obtain ⟨zc, u0, u1, u2, u3⟩ := F.out.cal.at_
  obtain ⟨t0, t1, t2, -⟩ := F.out.dt
  obtain ⟨p0, p1, p2, p3, p4, p5, p6, -⟩ := F.out.pb.wk
  have zd := F.out.dt.lt
  have zp := F.out.pb.wk.lt
  go_wp2_with fail
  go_at_call 8
  refine (CS.out _ F.out.pb.iz).mono ?_
  rintro e w3 ⟨rfl, hb3⟩
  clear zc u0 u1 u2 u3 t0 t1 t2 p0 p1 p2 p3 p4 p5 p6 zd zp
  have F := Lib.hid (F.out.call hb3)
  clear hb3 CS
  rcases hcase with hT | ⟨k, hk, hT, hyr, hs1, hs0⟩
  · have cW := CFW.out
    rw [hT] at cW
    have CW := Lib.hid cW
    clear cW hT CFW CRU CAD CSH HPS
    obtain ⟨zc, u0, u1, u2, u3⟩ := F.out.cal.at_
    obtain ⟨t0, t1, t2, -⟩ := F.out.dt
    obtain ⟨p0, p1, p2, p3, p4, p5, p6, -⟩ := F.out.pb.wk
    have zd := F.out.dt.lt
    have zp := F.out.pb.wk.lt
    go_wp2_with fail
    go_at_call 9
    refine (CW.out _ F.out.cal F.out.pb.iz).mono ?_
    rintro e w4 ⟨rfl, hb4⟩
    have BL := Lib.hid (below_call F.out.bl hb4)
    clear hb4
    clear zc u0 u1 u2 u3 t0 t1 t2 p0 p1 p2 p3 p4 p5 p6 zd zp
    go_wp2
    go_ret
    exact ⟨rfl, BL.out⟩
  have cW := CFW.out
  rw [hT] at cW
  have CW := Lib.hid cW
  have HY := Lib.hid hyr
  have a1 := fun (W : World) (hC : CalRd W b nm A1 A2 n1 n2 c1 c2 we ms rs) => CAD.out W hC (k + 1) (by omega) HY.out
  have a0 := fun (W : World) (hC : CalRd W b nm A1 A2 n1 n2 c1 c2 we ms rs) => CAD.out W hC k (by omega) (fun i h1 h2 => HY.out i h1 (by omega))
  have r1 := fun (W : World) (hI : Ints W W.heap.size L l zs) => CRU.out W hI (k + 1) (by omega)
  have r0 := fun (W : World) (hI : Ints W W.heap.size L l zs) => CRU.out W hI k (by omega)
  have v1 := HPS.out (k + 1)
  have v0 := HPS.out k
  generalize nightsS zs l te we (k + 1) (K, da, wd) = s1 at *
  generalize nightsS zs l te we k (K, da, wd) = s0 at *
  generalize datesS ms rs n1 n2 (k + 1) (y, m, d) = d1 at *
  generalize datesS ms rs n1 n2 k (y, m, d) = d0 at *
  obtain ⟨y1, e1, f1⟩ := d1
  obtain ⟨y0, e0, f0⟩ := d0
  have h1 := fun (W : World) (L2 : Option Addr) (cc2 : Nat) (hI : Ints W W.heap.size L2 l zs) => CSH.out W L2 cc2 hI s1 y1 e1 f1
  have h0 := fun (W : World) (L2 : Option Addr) (cc2 : Nat) (hI : Ints W W.heap.size L2 l zs) => CSH.out W L2 cc2 hI s0 y0 e0 f0
  dsimp only at a1 a0 r1 r0 h1 h0 hs1 hs0 v1 v0
  rw [show shT zs l (n1 : Int) te (s1.1 : Int) s1.2.1 we s1.2.2 e1 f1 = false by unfold shT; rw [hs1, Bool.and_false]] at h1
  rw [show shT zs l (n1 : Int) te (s0.1 : Int) s0.2.1 we s0.2.2 e0 f0 = true by unfold shT; rw [hs0, v0]; rfl] at h0
  obtain ⟨K1, D1, V1⟩ := s1
  obtain ⟨K0, D0, V0⟩ := s0
  dsimp only at r1 r0 h1 h0
  have i1 : ((k + 1 : Nat) : Int) - 1 = (k : Int) := by push_cast; omega
  have i2 : IntKind.i64.wrap (((k + 1 : Nat) : Int) - 1) = (k : Int) := by rw [i1]; exact IntWalk.i64_in _ (by omega)
  have i3 : (k : Int) + 1 - 1 = (k : Int) := by omega
  have i4 : IntKind.i64.wrap ((k : Int) + 1 - 1) = (k : Int) := by rw [i3]; exact IntWalk.i64_in _ (by omega)
  have X1 := Lib.hid a1
  have X0 := Lib.hid a0
  have Y1 := Lib.hid r1
  have Y0 := Lib.hid r0
  have Z1 := Lib.hid h1
  have Z0 := Lib.hid h0
  clear cW hT CFW CRU CAD CSH HPS a1 a0 r1 r0 h1 h0 hs1 hs0 v1 v0 hyr HY
  obtain ⟨zc, u0, u1, u2, u3⟩ := F.out.cal.at_
  obtain ⟨t0, t1, t2, -⟩ := F.out.dt
  obtain ⟨p0, p1, p2, p3, p4, p5, p6, -⟩ := F.out.pb.wk
  have zd := F.out.dt.lt
  have zp := F.out.pb.wk.lt
  go_wp2_with fail
  go_at_call 9
  refine (CW.out _ F.out.cal F.out.pb.iz).mono ?_
  rintro e w4 ⟨rfl, hb4⟩
  clear zc u0 u1 u2 u3 t0 t1 t2 p0 p1 p2 p3 p4 p5 p6 zd zp
  have F := Lib.hid (F.out.call hb4)
  clear hb4 CW
  obtain ⟨zc, u0, u1, u2, u3⟩ := F.out.cal.at_
  obtain ⟨t0, t1, t2, -⟩ := F.out.dt
  obtain ⟨p0, p1, p2, p3, p4, p5, p6, -⟩ := F.out.pb.wk
  have zd := F.out.dt.lt
  have zp := F.out.pb.wk.lt
  go_wp2_with fail
  go_at_call 10
  refine (Y1.out _ F.out.pb.iz).mono ?_
  rintro e w5 ⟨Lx, cx, rfl, ho5, hb5⟩
  clear zc u0 u1 u2 u3 t0 t1 t2 p0 p1 p2 p3 p4 p5 p6 zd zp
  have hal := alb0 w5 (.cells #[.slice Lx l cx, .int .i64 (n1 : Int), .int .i64 te, .int .i64 (K1 : Int), .int .i64 D1, .int .i64 we, .int .i64 V1] 32)
  have F := Lib.hid ((F.out.call hb5).call hal)
  have PX := Lib.hid (pb_new 32 ho5 (n1 : Int) te (K1 : Int) D1 we V1)
  clear hb5 ho5 Y1 hal
  go_upto_region 12 with fail
  obtain ⟨w6, hw6⟩ : ∃ W, w5.alloc (.cells #[.slice Lx l cx, .int .i64 (n1 : Int), .int .i64 te, .int .i64 (K1 : Int), .int .i64 D1, .int .i64 we, .int .i64 V1] 32) = W := ⟨_, rfl⟩
  obtain ⟨bx, hbx⟩ : ∃ q, w5.heap.size = q := ⟨_, rfl⟩
  rw [hw6] at F PX ⊢
  rw [hbx] at PX ⊢
  clear hw6 hbx
  obtain ⟨zc, u0, u1, u2, u3⟩ := F.out.cal.at_
  obtain ⟨t0, t1, t2, -⟩ := F.out.dt
  obtain ⟨p0, p1, p2, p3, p4, p5, p6, -⟩ := F.out.pb.wk
  have zd := F.out.dt.lt
  have zp := F.out.pb.wk.lt
  go_wp2_with fail
  go_at_call 10
  refine (Y0.out _ F.out.pb.iz).mono ?_
  rintro e w7 ⟨Ly, cy, rfl, ho7, hb7⟩
  clear zc u0 u1 u2 u3 t0 t1 t2 p0 p1 p2 p3 p4 p5 p6 zd zp
  have hal := alb0 w7 (.cells #[.slice Ly l cy, .int .i64 (n1 : Int), .int .i64 te, .int .i64 (K0 : Int), .int .i64 D0, .int .i64 we, .int .i64 V0] 32)
  have F := Lib.hid ((F.out.call hb7).call hal)
  have PX := Lib.hid ((PX.out.call hb7).call hal)
  have PY := Lib.hid (pb_new 32 ho7 (n1 : Int) te (K0 : Int) D0 we V0)
  clear hb7 ho7 Y0 hal
  go_upto_region 13 with fail
  obtain ⟨w8, hw8⟩ : ∃ W, w7.alloc (.cells #[.slice Ly l cy, .int .i64 (n1 : Int), .int .i64 te, .int .i64 (K0 : Int), .int .i64 D0, .int .i64 we, .int .i64 V0] 32) = W := ⟨_, rfl⟩
  obtain ⟨by_, hby⟩ : ∃ q, w7.heap.size = q := ⟨_, rfl⟩
  rw [hw8] at F PX PY ⊢
  rw [hby] at PY ⊢
  clear hw8 hby
  obtain ⟨zc, u0, u1, u2, u3⟩ := F.out.cal.at_
  obtain ⟨t0, t1, t2, -⟩ := F.out.dt
  obtain ⟨p0, p1, p2, p3, p4, p5, p6, -⟩ := F.out.pb.wk
  have zd := F.out.dt.lt
  have zp := F.out.pb.wk.lt
  go_wp2_with fail
  go_at_call 11
  refine (X1.out _ F.out.cal).mono ?_
  rintro e w9 ⟨rfl, hb9⟩
  clear zc u0 u1 u2 u3 t0 t1 t2 p0 p1 p2 p3 p4 p5 p6 zd zp
  have hal := alb0 w9 (.cells #[.int .i64 y1, .int .i64 e1, .int .i64 f1] 29)
  have F := Lib.hid ((F.out.call hb9).call hal)
  have PX := Lib.hid ((PX.out.call hb9).call hal)
  have PY := Lib.hid ((PY.out.call hb9).call hal)
  have DA := Lib.hid (dat_new w9 29 y1 e1 f1)
  clear hb9 X1 hal
  go_upto_region 14 with fail
  obtain ⟨wA, hwA⟩ : ∃ W, w9.alloc (.cells #[.int .i64 y1, .int .i64 e1, .int .i64 f1] 29) = W := ⟨_, rfl⟩
  obtain ⟨ba, hba⟩ : ∃ q, w9.heap.size = q := ⟨_, rfl⟩
  rw [hwA] at F PX PY DA ⊢
  rw [hba] at DA ⊢
  clear hwA hba
  obtain ⟨zc, u0, u1, u2, u3⟩ := F.out.cal.at_
  obtain ⟨t0, t1, t2, -⟩ := F.out.dt
  obtain ⟨p0, p1, p2, p3, p4, p5, p6, -⟩ := F.out.pb.wk
  have zd := F.out.dt.lt
  have zp := F.out.pb.wk.lt
  go_wp2_with fail
  go_at_call 11
  refine (X0.out _ F.out.cal).mono ?_
  rintro e wB ⟨rfl, hbB⟩
  clear zc u0 u1 u2 u3 t0 t1 t2 p0 p1 p2 p3 p4 p5 p6 zd zp
  have hal := alb0 wB (.cells #[.int .i64 y0, .int .i64 e0, .int .i64 f0] 29)
  have BL := Lib.hid (below_alloc (below_call F.out.bl hbB) (.cells #[.int .i64 y0, .int .i64 e0, .int .i64 f0] 29))
  have PX := Lib.hid ((PX.out.call hbB).call hal)
  have PY := Lib.hid ((PY.out.call hbB).call hal)
  have DA := Lib.hid ((DA.out.call hbB).call hal)
  have DB := Lib.hid (dat_new wB 29 y0 e0 f0)
  clear hbB X0 hal F
  go_upto_region 15 with fail
  obtain ⟨wC, hwC⟩ : ∃ W, wB.alloc (.cells #[.int .i64 y0, .int .i64 e0, .int .i64 f0] 29) = W := ⟨_, rfl⟩
  obtain ⟨bb, hbb⟩ : ∃ q, wB.heap.size = q := ⟨_, rfl⟩
  rw [hwC] at BL PX PY DA DB ⊢
  rw [hbb] at DB ⊢
  clear hwC hbb
  obtain ⟨p0, p1, p2, p3, p4, p5, p6, -⟩ := PX.out.wk
  obtain ⟨t0, t1, t2, -⟩ := DA.out
  have zp := PX.out.wk.lt
  have zd := DA.out.lt
  go_wp2_with fail
  go_at_call 12
  refine (Z1.out _ _ _ PX.out.iz).mono ?_
  rintro e wD ⟨rfl, hbD⟩
  have BL := Lib.hid (below_call BL.out hbD)
  have PY := Lib.hid (PY.out.call hbD)
  have DB := Lib.hid (DB.out.call hbD)
  clear p0 p1 p2 p3 p4 p5 p6 t0 t1 t2 zp zd hbD PX DA Z1
  obtain ⟨p0, p1, p2, p3, p4, p5, p6, -⟩ := PY.out.wk
  obtain ⟨t0, t1, t2, -⟩ := DB.out
  have zp := PY.out.wk.lt
  have zd := DB.out.lt
  go_wp2_with fail
  go_at_call 12
  refine (Z0.out _ _ _ PY.out.iz).mono ?_
  rintro e wE ⟨rfl, hbE⟩
  have BL := Lib.hid (below_call BL.out hbE)
  clear p0 p1 p2 p3 p4 p5 p6 t0 t1 t2 zp zd hbE
  go_wp2
  go_ret
  exact ⟨rfl, BL.out⟩

set_option maxRecDepth 100000 in
theorem lifted (os : Os) (started : os.Started) (H : Type) (enc : TypeId × Value → H) :
    ReturnsInHanded {} Try.checked os 3 .any (Rows.fnPerpetualSpec.pre6 enc Try.prog Try.f3 Rows.fnPerpetualRow.domain false) (Rows.fnPerpetualSpec.post enc Try.prog Try.f3 false true false false) := by
  refine returnsInHanded_of_change (C := Try.checked) own started (by kernel_rfl) Try.func3
    (ChangeSpec.witness6 (enc := enc) (C := Try.checked) false ⟨#[], #[.slice none 0 0], []⟩ 8 (by kernel_rfl) (by kernel_rfl) (by kernel_rfl) (by kernel_rfl)) ?_
  intro W base args ds gs before hval0 hW hcnd _
  have hval : ∀ (j : Nat) t v, Try.f3.params[j]? = some t → args[j]? = some v → Value.okWide Try.prog W .any base t v := hval0
  have hW' := hW
  obtain ⟨p, q, hA0, hV, rfl, hfz, hnd⟩ := hW
  have hA : DataW.TrodAll enc Try.prog W 0 (fun _ => true) true Try.f3.params.toList args.toList ds p := hA0
  rw [Try.params3] at hA hval
  obtain ⟨v0, vs0, d0, ds0, p0, q0, hargs, rfl, rfl, h0, r0⟩ := trodAll_cons hA
  obtain ⟨rfl, rfl, rfl⟩ := trodAll_nil r0
  obtain rfl : args = #[v0] := by cases args; simp_all
  obtain ⟨rfl, rfl⟩ := trodVars_none hV
  have k0 := h0
  have lt0 : ∀ x ∈ p0, x.block < W.heap.size := by obtain ⟨m, hm⟩ := k0; exact DataW.trod_lt m _ _ _ hm
  obtain ⟨A0, l0, c0, rfl, R0⟩ := open_Bytes (hval 0 22 v0 rfl rfl) h0
  clear hA0 hval0
  refine (walk A0 l0 c0 W R0).mono fun e W' ⟨he, bel⟩ => ?_
  subst he
  exact ⟨_, rfl, _, _, _, [], _, [], hW', trodAll_mk1 (shut_bool Try.underlying4 _), (trodAll_cons_mk (Below.trod laidOut (by kernel_rfl) (of_decide_eq_true (by kernel_rfl)) k0 bel lt0) trodAll_mk0), rfl, bel.frame _, fun h => by cases h⟩
theorem over : Rows.fnPerpetualRow.holds Try.pinned (OpenSpec.ofChange Rows.fnPerpetualSpec) :=
  OpenClaim.holds_of_wide 3 Try.f3 rfl rfl rfl rfl rfl rfl rfl ⟨rfl, rfl, rfl, rfl, rfl⟩ rfl rfl rfl rfl rfl (by kernel_rfl) Try.func3 (by kernel_rfl)
    (of_decide_eq_true (by kernel_rfl)) (by unfold Func.isWrapper; first | (rw [if_pos (by decide +kernel)]; kernel_rfl) | (rw [if_neg (by decide +kernel)]; exact ⟨rfl, rfl⟩))
    (fun os started H enc _ => lifted os started H enc)
theorem proved : Rows.FnPerpetualSaid := over
#print axioms proved
end Go.Proofs.Ytmbdedkelckedaa.fnPerpetual
