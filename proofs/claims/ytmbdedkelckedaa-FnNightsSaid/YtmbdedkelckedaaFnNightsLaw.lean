/- The law FnNights returns true for all bytes: nights may pass in two parts, and the date wheel is moved by as many teeth as it is told. No conditions. -/
import Derived.Test.YtmbdedkelckedaaLawSt2
import Derived.Test.YtmbdedkelckedaaCore4
import Derived.Test.YtmbdedkelckedaaStep
import Derived.Test.YtmbdedkelckedaaPush
namespace Go.Proofs.Ytmbdedkelckedaa.fnNights
open Go.ChangeShapes Go.WideShapes Go.ChangeAt Go.RowKit
set_option linter.unusedVariables false
set_option linter.unusedSimpArgs false
set_option maxRecDepth 4000 in
set_option maxHeartbeats 4000000 in
theorem walk (A : Option Addr) (n c : Nat) (A' : Option Addr) (n' c' : Nat) (w : World) (h : CameB w A n) (h' : CameB w A' n') :
    Calls Try.prog 4 #[.slice A n c, .slice A' n' c'] w fun e w' => e = .returned (.bool true) ∧ Below w.heap.size w w' := by
  obtain ⟨hb, hn⟩ := h
  obtain ⟨hb', hn'⟩ := h'
  have cF := fun W => a2Long_any A A' n n' c c' W hn hn'
  cases hd : (decide ((3000 : Int) < n) || decide ((3000 : Int) < n'))
  rotate_left
  · rw [hd] at cF
    have CF := Lib.hid cF
    clear cF hd hb hb'
    go_enter Try.func4, Try.ntmps4
    go_wp2_with (go_at_call 6; refine (CF.out _).mono ?_; rintro e w' ⟨rfl, rfl⟩)
    go_ret
    exact ⟨rfl, by (repeat (first | with_reducible exact Below.refl _ _ | with_reducible refine below_alloc ?_ _ | with_reducible refine below_drewN ?_ _ | with_reducible refine Below.drew ?_ | ((with_reducible refine below_set ?_ ?_ _); rotate_left; (focus (first | (simp; done) | (simp; omega) | omega))) | with_reducible refine below_call ?_ (by assumption)))⟩
  have hbig0 : (n : Int) ≤ 3000 ∧ (n' : Int) ≤ 3000 := by simpa using hd
  have hbig : n ≤ 3000 := by omega
  have hbig' : n' ≤ 3000 := by omega
  rw [hd] at cF
  have CF := Lib.hid cF
  have HB := Lib.hid hb
  have HB' := Lib.hid hb'
  clear cF hd hb hb' hbig0
  go_enter Try.func4, Try.ntmps4
  go_wp2_with fail
  go_at_call 6
  refine (CF.out _).mono ?_
  rintro e w' ⟨rfl, rfl⟩
  go_wp2_with fail
  go_at_call 7
  refine (A2Perpetual_any A n c _ HB.out (by omega)).mono ?_
  rintro e w1 ⟨⟨nm, A1, A2, n1, n2, c1, c2, ms, rs, we, y, m, d, L, l, cc, zs, te, K, da, wd, rfl, t1, t2, hc1, hc2, hv, hdo, hz, hl, hcc, hvp⟩, B1⟩
  have F := Lib.hid (lw_new (nm := nm) (we := we) (y := y) (m := m) (d := d) (mo := (n1 : Int)) (te := te) (ix := (K : Int)) (da := da) (wd := wd) (c1 := c1) (c2 := c2) (cc := cc) w w1 27 29 32 t1 t2 hz B1)
  have hlen := hz.len
  obtain ⟨-, -, hn6, -, ⟨m1, m2⟩, we1, we2⟩ := vCal_yes hv
  have hvp2 := vPerp_yes hvp
  have hl260 := (vCam_yes hvp2.1).2
  rw [hlen] at hl260
  obtain ⟨-, -, -, te12, -⟩ := hvp2
  clear hz t1 t2 B1 HB
  unfold stV
  go_upto_region 4 with fail
  obtain ⟨w2, hw2⟩ : ∃ W, ((w1.alloc (.cells #[.string nm, .slice A1 n1 c1, .slice A2 n2 c2, .int .i64 we] 27)).alloc (.cells #[.int .i64 y, .int .i64 m, .int .i64 d] 29)).alloc (.cells #[.slice L l cc, .int .i64 (n1 : Int), .int .i64 te, .int .i64 (K : Int), .int .i64 da, .int .i64 we, .int .i64 wd] 32) = W := ⟨_, rfl⟩
  rw [hw2] at F ⊢
  obtain ⟨b, hbe⟩ : ∃ q, w1.heap.size = q := ⟨_, rfl⟩
  rw [hbe] at F ⊢
  clear hw2 hbe
  -- the two numbers
  go_wp2_with fail
  go_at_call 13
  refine (a2At_any A' n' c' w.heap.size 0 200 _ (HB'.out.below F.out.bl) (by omega) (by omega) (by omega) (by omega)).mono ?_
  rintro e w' ⟨a, rfl, ha, rfl⟩
  go_wp2_with fail
  go_at_call 13
  refine (a2At_any A' n' c' w.heap.size 1 200 _ (HB'.out.below F.out.bl) (by omega) (by omega) (by omega) (by omega)).mono ?_
  rintro e w' ⟨b2, rfl, hb2, rfl⟩
  have hg0 := perp_good hvp
  have hadd := nights_add (zs := zs) (n := l) (te := te) (we := we) (s := (K, da, wd)) a b2
  have hga := good_nights (zs := zs) hg0 a
  have hgab := good_nights (zs := zs) hg0 (a + b2)
  have hva := perp_state hvp hga
  have hvab := perp_state hvp hgab
  have cA := fun (W : World) (hI : Ints W W.heap.size L l zs) => RunPerpetual_any L l cc W.heap.size zs (n1 : Int) te (K : Int) da we wd (a : Int) W hI (Nat.le_refl _) (by omega)
  have cC := fun (W : World) (hI : Ints W W.heap.size L l zs) => RunPerpetual_any L l cc W.heap.size zs (n1 : Int) te (K : Int) da we wd ((a + b2 : Nat) : Int) W hI (Nat.le_refl _) (by omega)
  rw [run_ok hvp (by omega)] at cA cC
  rw [hadd] at cC hvab
  generalize nightsS zs l te we a (K, da, wd) = sa at *
  obtain ⟨KA, DA, VA⟩ := sa
  dsimp only at cA hva
  have cB := fun (W : World) (L2 : Option Addr) (cc2 : Nat) (hI : Ints W W.heap.size L2 l zs) => RunPerpetual_any L2 l cc2 W.heap.size zs (n1 : Int) te (KA : Int) DA we VA (b2 : Int) W hI (Nat.le_refl _) (by omega)
  rw [run_ok hva (by omega)] at cB
  have cM := fun (W : World) (L2 : Option Addr) (cc2 : Nat) (hI : Ints W W.heap.size L2 l zs) => MidnightSteps_any L2 l cc2 W.heap.size zs (n1 : Int) te (KA : Int) DA we VA W hI (Nat.le_refl _) (by omega)
  rw [mid_yes hva] at cM
  have cN := fun (W : World) (L2 : Option Addr) (cc2 : Nat) (hI : Ints W W.heap.size L2 l zs) => StepPerpetual_any L2 l cc2 W.heap.size zs (n1 : Int) te (KA : Int) DA we VA W hI (Nat.le_refl _) (by omega)
  rw [rStep_yes hva] at cN
  have hnS : runS zs l (n1 : Int) te we (nightS zs l te we (KA, DA, VA)) = okP zs l (n1 : Int) te (mvK l te KA DA (msI zs te (KA : Int) DA) : Int) (mvD te DA (msI zs te (KA : Int) DA)) we (mvW we VA) := rfl
  rw [hnS] at cN
  clear hnS
  generalize nightsS zs l te we b2 (KA, DA, VA) = sb at *
  obtain ⟨KB, DB, VB⟩ := sb
  dsimp only at cB cC hvab
  obtain ⟨g1, g2, g3, g4, g5⟩ := hga
  have hst := msI_bd zs (ix := (KA : Int)) g2 g3
  have htop := msI_top zs (ix := (KA : Int)) g3
  dsimp only at g1 g2 g3 g4 g5 hst htop
  obtain ⟨st, hstN⟩ : ∃ st : Nat, msI zs te (KA : Int) DA = (st : Int) := Int.eq_ofNat_of_zero_le (by omega)
  rw [hstN] at cM cN hst htop
  have iab : ((a + b2 : Nat) : Int) = (a : Int) + (b2 : Int) := by push_cast; rfl
  rw [iab] at cC
  have CA := Lib.hid cA
  have CB := Lib.hid cB
  have CC := Lib.hid cC
  have CM := Lib.hid cM
  have CN := Lib.hid cN
  have HVA := Lib.hid hva
  have HVAB := Lib.hid hvab
  have hl1 := hl260.1
  clear cA cB cC cM cN hva hvab hg0 hgab hadd hstN iab
  have CV := Lib.hid (fun (W : World) (L2 : Option Addr) (cc2 : Nat) (hI : Ints W W.heap.size L2 l zs) => (show Calls Try.prog 15 #[.agg #[.slice L2 l cc2, .int .i64 (n1 : Int), .int .i64 te, .int .i64 (KB : Int), .int .i64 DB, .int .i64 we, .int .i64 VB]] W fun e w' => e = .returned (.bool true) ∧ Below W.heap.size W w' by
    rw [← HVAB.out]; exact specValidPerpetual_any L2 l cc2 W.heap.size zs (n1 : Int) te (KB : Int) DB we VB W hI (Nat.le_refl _) (by omega)))
  have CE := Lib.hid (fun (W : World) (L2 L3 : Option Addr) (c2 c3 : Nat) (i d v : Int) (h2 : Ints W W.heap.size L2 l zs) (h3 : Ints W W.heap.size L3 l zs) => (show Calls Try.prog 14 #[.agg #[.slice L2 l c2, .int .i64 (n1 : Int), .int .i64 te, .int .i64 i, .int .i64 d, .int .i64 we, .int .i64 v], .agg #[.slice L3 l c3, .int .i64 (n1 : Int), .int .i64 te, .int .i64 i, .int .i64 d, .int .i64 we, .int .i64 v]] W fun e w' => e = .returned (.bool true) ∧ Below W.heap.size W w' by
    rw [← same_self zs (n1 : Int) te i d we v]; exact specSamePerpetual_any L2 L3 l c2 l c3 W.heap.size W.heap.size zs zs (n1 : Int) te i d we v (n1 : Int) te i d we v W h2 h3 (Nat.le_refl _) (Nat.le_refl _) (by omega) (by omega)))
  obtain ⟨zc, u0, u1, u2, u3⟩ := F.out.cal.at_
  obtain ⟨t0, t1, t2, -⟩ := F.out.dt
  obtain ⟨p0, p1, p2, p3, p4, p5, p6, -⟩ := F.out.pb.wk
  have zd := F.out.dt.lt
  have zp := F.out.pb.wk.lt
  go_wp2_with fail
  go_at_call 10
  refine (CA.out _ F.out.pb.iz).mono ?_
  rintro e w3 ⟨Lx, cx, rfl, ho3, hb3⟩
  clear zc u0 u1 u2 u3 t0 t1 t2 p0 p1 p2 p3 p4 p5 p6 zd zp
  have hal := alb0 w3 (.cells #[.slice Lx l cx, .int .i64 (n1 : Int), .int .i64 te, .int .i64 (KA : Int), .int .i64 DA, .int .i64 we, .int .i64 VA] 32)
  have F := Lib.hid ((F.out.call hb3).call hal)
  have PX := Lib.hid (pb_new 32 ho3 (n1 : Int) te (KA : Int) DA we VA)
  clear hb3 ho3 CA hal
  go_upto_region 7 with fail
  obtain ⟨w4, hw4⟩ : ∃ W, w3.alloc (.cells #[.slice Lx l cx, .int .i64 (n1 : Int), .int .i64 te, .int .i64 (KA : Int), .int .i64 DA, .int .i64 we, .int .i64 VA] 32) = W := ⟨_, rfl⟩
  obtain ⟨bx, hbx⟩ : ∃ q, w3.heap.size = q := ⟨_, rfl⟩
  rw [hw4] at F PX ⊢
  rw [hbx] at PX ⊢
  clear hw4 hbx
  obtain ⟨p0, p1, p2, p3, p4, p5, p6, -⟩ := PX.out.wk
  have zp := PX.out.wk.lt
  go_wp2_with fail
  go_at_call 10
  refine (CB.out _ _ _ PX.out.iz).mono ?_
  rintro e w5 ⟨Ly, cy, rfl, ho5, hb5⟩
  clear p0 p1 p2 p3 p4 p5 p6 zp
  have hal := alb0 w5 (.cells #[.slice Ly l cy, .int .i64 (n1 : Int), .int .i64 te, .int .i64 (KB : Int), .int .i64 DB, .int .i64 we, .int .i64 VB] 32)
  have F := Lib.hid ((F.out.call hb5).call hal)
  have PX := Lib.hid ((PX.out.call hb5).call hal)
  have PY := Lib.hid (pb_new 32 ho5 (n1 : Int) te (KB : Int) DB we VB)
  clear hb5 ho5 CB hal
  go_upto_region 8 with fail
  obtain ⟨w6, hw6⟩ : ∃ W, w5.alloc (.cells #[.slice Ly l cy, .int .i64 (n1 : Int), .int .i64 te, .int .i64 (KB : Int), .int .i64 DB, .int .i64 we, .int .i64 VB] 32) = W := ⟨_, rfl⟩
  obtain ⟨by_, hby⟩ : ∃ q, w5.heap.size = q := ⟨_, rfl⟩
  rw [hw6] at F PX PY ⊢
  rw [hby] at PY ⊢
  clear hw6 hby
  have iw : IntKind.i64.wrap ((a : Int) + (b2 : Int)) = (a : Int) + (b2 : Int) := IntWalk.i64_in _ (by omega)
  obtain ⟨zc, u0, u1, u2, u3⟩ := F.out.cal.at_
  obtain ⟨t0, t1, t2, -⟩ := F.out.dt
  obtain ⟨p0, p1, p2, p3, p4, p5, p6, -⟩ := F.out.pb.wk
  have zd := F.out.dt.lt
  have zp := F.out.pb.wk.lt
  go_wp2_with fail
  go_at_call 10
  refine (CC.out _ F.out.pb.iz).mono ?_
  rintro e w7 ⟨Lz, cz, rfl, ho7, hb7⟩
  clear zc u0 u1 u2 u3 t0 t1 t2 p0 p1 p2 p3 p4 p5 p6 zd zp
  have hal := alb0 w7 (.cells #[.slice Lz l cz, .int .i64 (n1 : Int), .int .i64 te, .int .i64 (KB : Int), .int .i64 DB, .int .i64 we, .int .i64 VB] 32)
  have BL := Lib.hid (below_call (below_call F.out.bl hb7) hal)
  have PX := Lib.hid ((PX.out.call hb7).call hal)
  have PY := Lib.hid ((PY.out.call hb7).call hal)
  have PZ := Lib.hid (pb_new 32 ho7 (n1 : Int) te (KB : Int) DB we VB)
  clear hb7 ho7 CC hal F
  go_upto_region 9 with fail
  obtain ⟨w8, hw8⟩ : ∃ W, w7.alloc (.cells #[.slice Lz l cz, .int .i64 (n1 : Int), .int .i64 te, .int .i64 (KB : Int), .int .i64 DB, .int .i64 we, .int .i64 VB] 32) = W := ⟨_, rfl⟩
  obtain ⟨bz, hbz⟩ : ∃ q, w7.heap.size = q := ⟨_, rfl⟩
  rw [hw8] at BL PX PY PZ ⊢
  rw [hbz] at PZ ⊢
  clear hw8 hbz
  obtain ⟨p0, p1, p2, p3, p4, p5, p6, -⟩ := PY.out.wk
  obtain ⟨q0, q1, q2, q3, q4, q5, q6, -⟩ := PZ.out.wk
  have zp := PY.out.wk.lt
  have zq := PZ.out.wk.lt
  go_wp2_with fail
  go_at_call 14
  refine (CE.out _ _ _ _ _ _ _ _ PY.out.iz PZ.out.iz).mono ?_
  rintro e w9 ⟨rfl, hb9⟩
  have BL := Lib.hid (below_call BL.out hb9)
  have PX := Lib.hid (PX.out.call hb9)
  have PZ := Lib.hid (PZ.out.call hb9)
  clear p0 p1 p2 p3 p4 p5 p6 zp q0 q1 q2 q3 q4 q5 q6 zq hb9 PY
  obtain ⟨q0, q1, q2, q3, q4, q5, q6, -⟩ := PZ.out.wk
  have zq := PZ.out.wk.lt
  go_wp2_with fail
  go_at_call 15
  refine (CV.out _ _ _ PZ.out.iz).mono ?_
  rintro e wA ⟨rfl, hbA⟩
  have BL := Lib.hid (below_call BL.out hbA)
  have PX := Lib.hid (PX.out.call hbA)
  clear q0 q1 q2 q3 q4 q5 q6 zq hbA PZ CV
  obtain ⟨p0, p1, p2, p3, p4, p5, p6, -⟩ := PX.out.wk
  have zp := PX.out.wk.lt
  go_wp2_with fail
  go_at_call 16
  refine (CM.out _ _ _ PX.out.iz).mono ?_
  rintro e wB ⟨rfl, hbB⟩
  have BL := Lib.hid (below_call BL.out hbB)
  have PX := Lib.hid (PX.out.call hbB)
  clear p0 p1 p2 p3 p4 p5 p6 zp hbB CM
  obtain ⟨p0, p1, p2, p3, p4, p5, p6, -⟩ := PX.out.wk
  have zp := PX.out.wk.lt
  go_wp2_with fail
  go_at_call 17
  refine (CN.out _ _ _ PX.out.iz).mono ?_
  rintro e wC ⟨Ln, cn, rfl, hoC, hbC⟩
  clear p0 p1 p2 p3 p4 p5 p6 zp
  have hal := alb0 wC (.cells #[.slice Ln l cn, .int .i64 (n1 : Int), .int .i64 te, .int .i64 (mvK l te KA DA (st : Int) : Int), .int .i64 (mvD te DA (st : Int)), .int .i64 we, .int .i64 (mvW we VA)] 32)
  have BL := Lib.hid (below_call (below_call BL.out hbC) hal)
  have PX := Lib.hid ((PX.out.call hbC).call hal)
  have PN := Lib.hid (pb_new 32 hoC (n1 : Int) te (mvK l te KA DA (st : Int) : Int) (mvD te DA (st : Int)) we (mvW we VA))
  clear hbC hoC CN hal
  go_upto_region 13 with fail
  obtain ⟨wD, hwD⟩ : ∃ W, wC.alloc (.cells #[.slice Ln l cn, .int .i64 (n1 : Int), .int .i64 te, .int .i64 (mvK l te KA DA (st : Int) : Int), .int .i64 (mvD te DA (st : Int)), .int .i64 we, .int .i64 (mvW we VA)] 32) = W := ⟨_, rfl⟩
  obtain ⟨bn, hbn⟩ : ∃ q, wC.heap.size = q := ⟨_, rfl⟩
  rw [hwD] at BL PX PN ⊢
  rw [hbn] at PN ⊢
  clear hwD hbn
  obtain ⟨p0, p1, p2, p3, p4, p5, p6, -⟩ := PX.out.wk
  have zp := PX.out.wk.lt
  have i1 : ¬ ((st : Int) < 1) := by omega
  have i2 : ¬ (te < (st : Int)) := by omega
  go_upto_region 16 with fail
  clear p0 p1 p2 p3 p4 p5 p6 zp i1 i2
  have hal := alb0 wD (.cells #[.slice Lx l cx, .int .i64 (n1 : Int), .int .i64 te, .int .i64 (KA : Int), .int .i64 DA, .int .i64 we, .int .i64 VA] 32)
  have hzn := PN.out.wk.lt
  have hneN := Lib.hid (ints_far (q := wD.heap.size) PN.out.iz hl1 (Nat.le_refl _))
  have hneX := Lib.hid (ints_far (q := wD.heap.size) PX.out.iz hl1 (Nat.le_refl _))
  have hwq := BL.out.size
  have BL := Lib.hid (below_call BL.out hal)
  have PN := Lib.hid (PN.out.call hal)
  have PP := Lib.hid (PB.mk (work_new wD 32 (.slice Lx l cx) (n1 : Int) te (KA : Int) DA we VA) (PX.out.call hal).iz)
  clear hal PX
  obtain ⟨wE, hwE⟩ : ∃ W, wD.alloc (.cells #[.slice Lx l cx, .int .i64 (n1 : Int), .int .i64 te, .int .i64 (KA : Int), .int .i64 DA, .int .i64 we, .int .i64 VA] 32) = W := ⟨_, rfl⟩
  obtain ⟨bq, hbq⟩ : ∃ q, wD.heap.size = q := ⟨_, rfl⟩
  rw [hwE] at BL PN PP ⊢
  rw [hbq] at PP hneN hneX hzn hwq ⊢
  clear hwE hbq
  go_wp2
  go_loopw [21] (fun t wr => ∃ (j cj : Nat) (Lj : Option Addr), t = .int .i64 (j : Int) ∧ j ≤ st ∧ Hid (PB wr bq Lj l cj zs (n1 : Int) te (mvK l te KA DA (j : Int) : Int) (mvD te DA (j : Int)) we VA) ∧ Hid (PB wr bn Ln l cn zs (n1 : Int) te (mvK l te KA DA (st : Int) : Int) (mvD te DA (st : Int)) we (mvW we VA)) ∧ Hid (∀ ad, Lj = some ad → ad.block ≠ bq) ∧ Hid (Below w.heap.size w wr)) (fun t _ => st - (intOf t).toNat)
  case atStart =>
    have e := (push_two (n := l) (k := KA) (te := te) (da := DA) (j := 0) (by omega))
    refine ⟨0, cx, Lx, rfl, Nat.zero_le _, Lib.hid ?_, PN, hneX, BL⟩
    rw [show ((0 : Nat) : Int) = 0 from rfl, e.1, e.2.1, Int.add_zero]
    exact PP.out
  case round =>
    clear PN PP BL hneX
    obtain ⟨j, cj, Lj, rfl, hj, PP, PN, HNE, BL⟩ := hrel
    by_cases hlt : j < st
    · have i1 : (j : Int) < (st : Int) := by omega
      obtain ⟨e1, e2, e3, e4⟩ := push_two (n := l) (k := KA) (te := te) (da := DA) (j := (j : Int)) (by omega)
      have hvj := perp_state (s := (KA, DA + (j : Int), VA)) HVA.out ⟨g1, by show 1 ≤ DA + (j : Int); omega, by show DA + (j : Int) ≤ te; omega, g4, g5⟩
      dsimp only at hvj
      rw [e1, e2] at PP
      have cP := fun (W : World) (hI : Ints W W.heap.size Lj l zs) => PushDate_any Lj l cj W.heap.size zs (n1 : Int) te (KA : Int) (DA + (j : Int)) we VA W hI (Nat.le_refl _) (by omega)
      rw [push_okD hvj, e3, e4] at cP
      rw [show (j : Int) + 1 = ((j + 1 : Nat) : Int) by push_cast; rfl] at cP
      obtain ⟨KQ, hKQ⟩ : ∃ q, mvK l te KA DA ((j + 1 : Nat) : Int) = q := ⟨_, rfl⟩
      obtain ⟨DQ, hDQ⟩ : ∃ q, mvD te DA ((j + 1 : Nat) : Int) = q := ⟨_, rfl⟩
      rw [hKQ, hDQ] at cP
      have HKQ := Lib.hid hKQ
      have HDQ := Lib.hid hDQ
      clear hKQ hDQ
      have CP := Lib.hid cP
      clear cP hvj e1 e2 e3 e4
      generalize DA + (j : Int) = DJ at *
      obtain ⟨p0, p1, p2, p3, p4, p5, p6, -⟩ := PP.out.wk
      have zp := PP.out.wk.lt
      go_wp2_with fail
      go_at_call 18
      refine (CP.out _ PP.out.iz).mono ?_
      rintro e w4 ⟨L4, c4, rfl, ho4, hb4⟩
      clear p0 p1 p2 p3 p4 p5 p6
      have hal := alb0 w4 (.cells #[.slice L4 l c4, .int .i64 (n1 : Int), .int .i64 te, .int .i64 (KQ : Int), .int .i64 DQ, .int .i64 we, .int .i64 VA] 32)
      have HF4 := Lib.hid (own_far ho4 zp)
      have BL := Lib.hid (below_call (below_call BL.out hb4) hal)
      have PN := Lib.hid ((PN.out.call hb4).call hal)
      have PP := Lib.hid ((PP.out.wk.call hb4).call hal)
      have P4 := Lib.hid (pb_new 32 ho4 (n1 : Int) te (KQ : Int) DQ we VA)
      have hb4q : bq ≠ w4.heap.size := by have := hb4.size; omega
      clear hb4 ho4 CP hal zp
      go_upto_region 20 with fail
      obtain ⟨w5, hw5⟩ : ∃ W, w4.alloc (.cells #[.slice L4 l c4, .int .i64 (n1 : Int), .int .i64 te, .int .i64 (KQ : Int), .int .i64 DQ, .int .i64 we, .int .i64 VA] 32) = W := ⟨_, rfl⟩
      obtain ⟨b4, hb4⟩ : ∃ q, w4.heap.size = q := ⟨_, rfl⟩
      rw [hw5] at BL PN PP P4 ⊢
      rw [hb4] at P4 hb4q ⊢
      clear hw5 hb4
      obtain ⟨p0, p1, p2, p3, p4, p5, p6, -⟩ := P4.out.wk
      have zp := P4.out.wk.lt
      obtain ⟨q0, q1, q2, q3, q4, q5, q6, qf⟩ := PP.out
      have f0 := qf 0
      have f1 := qf 1
      have f2 := qf 2
      have f3 := qf 3
      have f4 := qf 4
      have f5 := qf 5
      have f6 := qf 6
      clear qf
      have PQ := Lib.hid (pb_set7 PP.out P4.out.iz HF4.out (cc := c4) (n1 : Int) te (KQ : Int) DQ we VA)
      have PM := Lib.hid (PN.out.set7 (q := bq) (v0 := .slice L4 l c4) (v1 := .int .i64 (n1 : Int)) (v2 := .int .i64 te) (v3 := .int .i64 (KQ : Int)) (v4 := .int .i64 DQ) (v5 := .int .i64 we) (v6 := .int .i64 VA) (by omega) hneN.out)
      have BQ := Lib.hid (below_set7 (v0 := .slice L4 l c4) (v1 := .int .i64 (n1 : Int)) (v2 := .int .i64 te) (v3 := .int .i64 (KQ : Int)) (v4 := .int .i64 DQ) (v5 := .int .i64 we) (v6 := .int .i64 VA) BL.out hwq)
      go_wp2
      go_roundw
      case rel => exact ⟨j + 1, c4, L4, by go_num, by omega, by rw [HKQ.out, HDQ.out]; exact PQ, PM, HF4, BQ⟩
      case measure => simp [intOf]; omega
    · have i1 : ¬ ((j : Int) < (st : Int)) := by omega
      have hE : j = st := by omega
      subst hE
      have hmv := mvD_bd (da := DA) (te := te) (t := (j : Int)) g2 g3 (by omega) (by omega)
      have hvj := perp_state (s := (mvK l te KA DA (j : Int), mvD te DA (j : Int), VA)) HVA.out ⟨mvK_lt g1, hmv.1, hmv.2, g4, g5⟩
      dsimp only at hvj
      have cP := fun (W : World) (hI : Ints W W.heap.size Lj l zs) => PushWeekday_any Lj l cj W.heap.size zs (n1 : Int) te (mvK l te KA DA (j : Int) : Int) (mvD te DA (j : Int)) we VA W hI (Nat.le_refl _) (by omega)
      rw [push_okW hvj] at cP
      have CP := Lib.hid cP
      clear cP hvj hmv
      generalize mvK l te KA DA (j : Int) = KJ at *
      generalize mvD te DA (j : Int) = DJ at *
      generalize mvW we VA = VJ at *
      obtain ⟨p0, p1, p2, p3, p4, p5, p6, -⟩ := PP.out.wk
      have zp := PP.out.wk.lt
      go_wp2_with fail
      go_at_call 19
      refine (CP.out _ PP.out.iz).mono ?_
      rintro e w4 ⟨L4, c4, rfl, ho4, hb4⟩
      clear p0 p1 p2 p3 p4 p5 p6
      have HF4 := Lib.hid (own_far ho4 zp)
      have HI4 := Lib.hid (ho4.ints (Nat.le_refl _))
      have BL := Lib.hid (below_call BL.out hb4)
      have PN := Lib.hid (PN.out.call hb4)
      have PP := Lib.hid (PP.out.wk.call hb4)
      clear hb4 ho4 CP zp
      obtain ⟨q0, q1, q2, q3, q4, q5, q6, qf⟩ := PP.out
      have f0 := qf 0
      have f1 := qf 1
      have f2 := qf 2
      have f3 := qf 3
      have f4 := qf 4
      have f5 := qf 5
      have f6 := qf 6
      clear qf
      have PQ := Lib.hid (pb_set7 PP.out HI4.out HF4.out (cc := c4) (n1 : Int) te (KJ : Int) DJ we VJ)
      have PM := Lib.hid (PN.out.set7 (q := bq) (v0 := .slice L4 l c4) (v1 := .int .i64 (n1 : Int)) (v2 := .int .i64 te) (v3 := .int .i64 (KJ : Int)) (v4 := .int .i64 DJ) (v5 := .int .i64 we) (v6 := .int .i64 VJ) (by omega) hneN.out)
      have BQ := Lib.hid (below_set7 (v0 := .slice L4 l c4) (v1 := .int .i64 (n1 : Int)) (v2 := .int .i64 te) (v3 := .int .i64 (KJ : Int)) (v4 := .int .i64 DJ) (v5 := .int .i64 we) (v6 := .int .i64 VJ) BL.out hwq)
      go_upto_region 24 with fail
      clear q0 q1 q2 q3 q4 q5 q6 f0 f1 f2 f3 f4 f5 f6 PP PN BL HI4 HF4
      obtain ⟨w5, hw5⟩ : ∃ W, ((((((w4.setCell ⟨bq, 0, none⟩ (.slice L4 l c4)).setCell ⟨bq, 1, none⟩ (.int .i64 (n1 : Int))).setCell ⟨bq, 2, none⟩ (.int .i64 te)).setCell ⟨bq, 3, none⟩ (.int .i64 (KJ : Int))).setCell ⟨bq, 4, none⟩ (.int .i64 DJ)).setCell ⟨bq, 5, none⟩ (.int .i64 we)).setCell ⟨bq, 6, none⟩ (.int .i64 VJ) = W := ⟨_, rfl⟩
      rw [hw5] at PQ PM BQ ⊢
      clear hw5
      obtain ⟨p0, p1, p2, p3, p4, p5, p6, -⟩ := PQ.out.wk
      obtain ⟨q0, q1, q2, q3, q4, q5, q6, -⟩ := PM.out.wk
      have zp := PQ.out.wk.lt
      have zq := PM.out.wk.lt
      go_wp2_with fail
      go_at_call 14
      refine (CE.out _ _ _ _ _ _ _ _ PQ.out.iz PM.out.iz).mono ?_
      rintro e w6 ⟨rfl, hb6⟩
      have BL := Lib.hid (below_call BQ.out hb6)
      clear p0 p1 p2 p3 p4 p5 p6 q0 q1 q2 q3 q4 q5 q6 zp zq hb6
      go_wp2
      go_ret
      exact ⟨rfl, BL.out⟩

set_option maxRecDepth 100000 in
theorem lifted (os : Os) (started : os.Started) (H : Type) (enc : TypeId × Value → H) :
    ReturnsInHanded {} Try.checked os 4 .any (Rows.fnNightsSpec.pre6 enc Try.prog Try.f4 Rows.fnNightsRow.domain false) (Rows.fnNightsSpec.post enc Try.prog Try.f4 false true false false) := by
  refine returnsInHanded_of_change (C := Try.checked) own started (by kernel_rfl) Try.func4
    (ChangeSpec.witness6 (enc := enc) (C := Try.checked) false ⟨#[], #[.slice none 0 0, .slice none 0 0], []⟩ 8 (by kernel_rfl) (by kernel_rfl) (by kernel_rfl) (by kernel_rfl)) ?_
  intro W base args ds gs before hval0 hW hcnd _
  have hval : ∀ (j : Nat) t v, Try.f4.params[j]? = some t → args[j]? = some v → Value.okWide Try.prog W .any base t v := hval0
  have hW' := hW
  obtain ⟨p, q, hA0, hV, rfl, hfz, hnd⟩ := hW
  have hA : DataW.TrodAll enc Try.prog W 0 (fun _ => true) true Try.f4.params.toList args.toList ds p := hA0
  rw [Try.params4] at hA hval
  obtain ⟨v0, vs0, d0, ds0, p0, q0, hargs, rfl, rfl, h0, r0⟩ := trodAll_cons hA
  obtain ⟨v1, vs1, d1, ds1, p1, q1, rfl, rfl, rfl, h1, r1⟩ := trodAll_cons r0
  obtain ⟨rfl, rfl, rfl⟩ := trodAll_nil r1
  obtain rfl : args = #[v0, v1] := by cases args; simp_all
  obtain ⟨rfl, rfl⟩ := trodVars_none hV
  have k0 := h0
  have lt0 : ∀ x ∈ p0, x.block < W.heap.size := by obtain ⟨m, hm⟩ := k0; exact DataW.trod_lt m _ _ _ hm
  have k1 := h1
  have lt1 : ∀ x ∈ p1, x.block < W.heap.size := by obtain ⟨m, hm⟩ := k1; exact DataW.trod_lt m _ _ _ hm
  obtain ⟨A0, l0, c0, rfl, R0⟩ := open_Bytes (hval 0 22 v0 rfl rfl) h0
  obtain ⟨A1, l1, c1, rfl, R1⟩ := open_Bytes (hval 1 22 v1 rfl rfl) h1
  clear hA0 hval0
  refine (walk A0 l0 c0 A1 l1 c1 W R0 R1).mono fun e W' ⟨he, bel⟩ => ?_
  subst he
  exact ⟨_, rfl, _, _, _, [], _, [], hW', trodAll_mk1 (shut_bool Try.underlying4 _), (trodAll_cons_mk (Below.trod laidOut (by kernel_rfl) (of_decide_eq_true (by kernel_rfl)) k0 bel lt0) (trodAll_cons_mk (Below.trod laidOut (by kernel_rfl) (of_decide_eq_true (by kernel_rfl)) k1 bel lt1) trodAll_mk0)), rfl, bel.frame _, fun h => by cases h⟩
theorem over : Rows.fnNightsRow.holds Try.pinned (OpenSpec.ofChange Rows.fnNightsSpec) :=
  OpenClaim.holds_of_wide 4 Try.f4 rfl rfl rfl rfl rfl rfl rfl ⟨rfl, rfl, rfl, rfl, rfl⟩ rfl rfl rfl rfl rfl (by kernel_rfl) Try.func4 (by kernel_rfl)
    (of_decide_eq_true (by kernel_rfl)) (by unfold Func.isWrapper; first | (rw [if_pos (by decide +kernel)]; kernel_rfl) | (rw [if_neg (by decide +kernel)]; exact ⟨rfl, rfl⟩))
    (fun os started H enc _ => lifted os started H enc)
theorem proved : Rows.FnNightsSaid := over
#print axioms proved
end Go.Proofs.Ytmbdedkelckedaa.fnNights
