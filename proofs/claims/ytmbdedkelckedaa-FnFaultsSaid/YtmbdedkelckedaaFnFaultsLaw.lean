/- The law FnFaults returns true for all bytes: the next fault is the first one of those that are told, and the numbers of a cam are repeated after its period. No conditions. -/
import Derived.Test.YtmbdedkelckedaaLawSt2
import Derived.Test.YtmbdedkelckedaaNextF
import Derived.Test.YtmbdedkelckedaaPeriod
import Derived.Test.YtmbdedkelckedaaLevels
import Derived.Test.YtmbdedkelckedaaCore6
namespace Go.Proofs.Ytmbdedkelckedaa.fnFaults
open Go.ChangeShapes Go.WideShapes Go.ChangeAt Go.RowKit
set_option linter.unusedVariables false
set_option linter.unusedSimpArgs false
/-- the calendar in its box and the cam -/
structure LC (w W : World) (b : Nat) (nm : ByteArray) (A1 A2 L : Option Addr) (n1 n2 c1 c2 l : Nat) (ms : List Mth) (rs : List Rul) (zs : List Int) (we : Int) : Prop where
  cal : CalRd W b nm A1 A2 n1 n2 c1 c2 we ms rs
  iz : Ints W W.heap.size L l zs
  bl : Below w.heap.size w W
theorem LC.call {w W W' : World} {b : Nat} {nm : ByteArray} {A1 A2 L : Option Addr} {n1 n2 c1 c2 l : Nat} {ms : List Mth} {rs : List Rul} {zs : List Int} {we : Int} (h : LC w W b nm A1 A2 L n1 n2 c1 c2 l ms rs zs we) (hb : Below W.heap.size W W') : LC w W' b nm A1 A2 L n1 n2 c1 c2 l ms rs zs we :=
  ⟨h.cal.call hb, (h.iz.below hb).more hb.size, below_call h.bl hb⟩
theorem lv_some {zs : List Int} (h : vCam zs = true) : 1 ≤ (lvL zs).length ∧ lvC zs = 0 := by
  refine ⟨?_, by simp [lvC, h]⟩
  rw [show lvL zs = zs.foldl putL [] by simp [lvL, h]]
  obtain ⟨-, h1, -⟩ := vCam_yes h
  have hm : zs.getD 0 0 ∈ zs := by rw [getD_of (by omega)]; exact List.getElem_mem _
  have := (foldl_put_mem (zs.getD 0 0) zs []).2 (.inr hm)
  exact List.length_pos_of_mem this
set_option maxRecDepth 4000 in
set_option maxHeartbeats 4000000 in
theorem walk (A : Option Addr) (n c : Nat) (A' : Option Addr) (n' c' : Nat) (w : World) (h : CameB w A n) (h' : CameB w A' n') :
    Calls Try.prog 5 #[.slice A n c, .slice A' n' c'] w fun e w' => e = .returned (.bool true) ∧ Below w.heap.size w w' := by
  obtain ⟨hb, hn⟩ := h
  obtain ⟨hb', hn'⟩ := h'
  have cF := fun W => a2Long_any A A' n n' c c' W hn hn'
  cases hd : (decide ((3000 : Int) < n) || decide ((3000 : Int) < n'))
  rotate_left
  · rw [hd] at cF
    have CF := Lib.hid cF
    clear cF hd hb hb'
    go_enter Try.func5, Try.ntmps5
    go_wp2_with (go_at_call 6; refine (CF.out _).mono ?_; rintro e w' ⟨rfl, rfl⟩)
    go_ret
    exact ⟨rfl, by (repeat (first | with_reducible exact Below.refl _ _ | with_reducible refine below_alloc ?_ _ | with_reducible refine below_drewN ?_ _ | with_reducible refine Below.drew ?_ | ((with_reducible refine below_set ?_ ?_ _); rotate_left; (focus (first | (simp; done) | (simp; omega) | omega))) | with_reducible refine below_call ?_ (by assumption)))⟩
  have hbig0 : (n : Int) ≤ 3000 ∧ (n' : Int) ≤ 3000 := by simpa using hd
  have hbig : n ≤ 3000 := by omega
  have hbig' : n' ≤ 3000 := by omega
  rw [hd] at cF
  have CF := Lib.hid cF
  have HB := Lib.hid hb
  have HB' := Lib.hid hb'
  clear cF hd hb hb' hbig0
  go_enter Try.func5, Try.ntmps5
  go_wp2_with fail
  go_at_call 6
  refine (CF.out _).mono ?_
  rintro e w' ⟨rfl, rfl⟩
  go_wp2_with fail
  go_at_call 20
  refine (A2Cam_any A n c _ HB.out (by omega)).mono ?_
  rintro e w1 ⟨⟨nm, A1, A2, n1, n2, c1, c2, ms, rs, we, L, l, cc, zs, rfl, t1, t2, hc1, hc2, hv, hz, hvc, hmd, hl, hcc⟩, B1⟩
  have hlen := hz.len
  obtain ⟨-, -, hn6, -, ⟨m1, m2⟩, we1, we2⟩ := vCal_yes hv
  obtain ⟨-, z2, z3⟩ := vCam_yes hvc
  rw [hlen] at z2 z3
  have hal := alb0 w1 (.cells #[.string nm, .slice A1 n1 c1, .slice A2 n2 c2, .int .i64 we] 27)
  have F : Hid (LC w (w1.alloc (.cells #[.string nm, .slice A1 n1 c1, .slice A2 n2 c2, .int .i64 we] 27)) w1.heap.size nm A1 A2 L n1 n2 c1 c2 l ms rs zs we) := Lib.hid
    ⟨⟨cal_new w1 27 nm A1 A2 n1 n2 c1 c2 we, Tri.more (Tri.below t1 hal) hal.size, Tri.more (Tri.below t2 hal) hal.size⟩, (hz.below hal).more hal.size, below_call B1 hal⟩
  clear hz t1 t2 B1 HB hal
  go_upto_region 4 with fail
  obtain ⟨w2, hw2⟩ : ∃ W, w1.alloc (.cells #[.string nm, .slice A1 n1 c1, .slice A2 n2 c2, .int .i64 we] 27) = W := ⟨_, rfl⟩
  obtain ⟨b, hbe⟩ : ∃ q, w1.heap.size = q := ⟨_, rfl⟩
  rw [hw2, hbe] at F
  rw [hw2, hbe]
  clear hw2 hbe
  go_wp2_with fail
  go_at_call 13
  refine (a2At_any A' n' c' w.heap.size 0 200 _ (HB'.out.below F.out.bl) (by omega) (by omega) (by omega) (by omega)).mono ?_
  rintro e w' ⟨x0, rfl, hx0, rfl⟩
  obtain ⟨Y, hY⟩ : ∃ Y : Nat, 20 * x0 = Y := ⟨_, rfl⟩
  have iY : (20 : Int) * (x0 : Int) = (Y : Int) := by omega
  have hY2 : Y ≤ 3980 := by omega
  have iY2 : IntKind.i64.wrap ((20 : Int) * (x0 : Int)) = (Y : Int) := by rw [iY]; exact IntWalk.i64_in _ (by omega)
  have iY3 : IntKind.i64.wrap ((Y : Int) + 9) = (Y : Int) + 9 := IntWalk.i64_in _ (by omega)
  have hask : askV nm n1 n2 ms rs we zs l = 0 := by rw [ask_good hv hvc, if_pos hmd]
  have cN := fun (W : World) (hC : CalRd W b nm A1 A2 n1 n2 c1 c2 we ms rs) (hI : Ints W W.heap.size L l zs) => NextFault_any nm A1 A2 L n1 n2 c1 c2 l cc W.heap.size ms rs we zs Y W hC.m hC.r hI (Nat.le_refl _) hc1 hc2 (by omega) (by omega) hl hcc hask (by omega)
  have cC := fun (W : World) (hC : CalRd W b nm A1 A2 n1 n2 c1 c2 we ms rs) (hI : Ints W W.heap.size L l zs) => CamFaults_any nm A1 A2 L n1 n2 c1 c2 l cc W.heap.size ms rs we zs (Y : Int) ((Y + 9 : Nat) : Int) W hC.m hC.r hI (Nat.le_refl _) hc1 hc2 (by omega) (by omega) hl hcc
  have CPE := Lib.hid (fun (W : World) (hI : Ints W W.heap.size L l zs) => CamPeriod_any L l cc W.heap.size zs W hI (Nat.le_refl _) z2 z3 hl hcc hvc)
  have hlv := lv_some hvc
  have cL := fun (W : World) (hI : Ints W W.heap.size L l zs) => CamLevels_any L l cc W.heap.size zs W hI (Nat.le_refl _) (by omega)
  rw [hlv.2] at cL
  have HLV := Lib.hid hlv.1
  have CLV := Lib.hid cL
  have i9 : ((Y + 9 : Nat) : Int) = (Y : Int) + 9 := by push_cast; rfl
  have hV : (inB (Y : Int) 0 9999 && (inB ((Y + 9 : Nat) : Int) 0 9999 && decide ((Y : Int) ≤ ((Y + 9 : Nat) : Int)))) = true := by rw [inB_mk (by omega) (by omega), inB_mk (by omega) (by omega), decide_eq_true (by omega)]; rfl
  have hcases := next_cases (ms := ms) (rs := rs) (n := n1) (n' := n2) (zs := zs) (l := l) (F := Y) (N := 10000 - Y) (by omega)
  generalize lvL zs = lv at *
  have hfc : (40 < (allF ms rs n1 n2 zs l Y 10).length ∧ rCF nm n1 n2 ms rs we zs l (Y : Int) ((Y + 9 : Nat) : Int) = ([], 5)) ∨ (¬ (40 < (allF ms rs n1 n2 zs l Y 10).length) ∧ rCF nm n1 n2 ms rs we zs l (Y : Int) ((Y + 9 : Nat) : Int) = (allF ms rs n1 n2 zs l Y 10, 0)) := by
    by_cases h40 : 40 < (allF ms rs n1 n2 zs l Y 10).length
    · exact .inl ⟨h40, rCF_full hask hV h40⟩
    · exact .inr ⟨h40, rCF_ok hask hV h40⟩
  have HV := Lib.hid hv
  clear cL hlv hask hV hv hvc hmd
  rcases hcases with ⟨hN, hA⟩ | ⟨j, x, hN, hj, hyr, hmo1, hmo2, hri, hsh, hA⟩
  · -- no fault at all
    rw [hA] at hfc
    rw [hN] at cN
    simp only [outF, fV, f0] at cN
    rcases hfc with ⟨h40, -⟩ | ⟨-, hfc⟩
    · simp at h40
    rw [hfc, i9] at cC
    have CN := Lib.hid cN
    have CC := Lib.hid cC
    clear cN cC hN hA hfc hY i9
    obtain ⟨zc, u0, u1, u2, u3⟩ := F.out.cal.at_
    go_wp2_with fail
    go_at_call 21
    refine (CN.out _ F.out.cal F.out.iz).mono ?_
    rintro e w3 ⟨rfl, hb3⟩
    clear zc u0 u1 u2 u3
    have hal := alb0 w3 (.cells #[.int .i64 0, .int .i64 0, .int .i64 0, .int .i64 0] 51)
    have F := Lib.hid ((F.out.call hb3).call hal)
    have X := Lib.hid (flt_new w3 51 0 0 0 0)
    clear hb3 hal CN
    go_upto_region 6 with fail
    obtain ⟨w4, hw4⟩ : ∃ W, w3.alloc (.cells #[.int .i64 0, .int .i64 0, .int .i64 0, .int .i64 0] 51) = W := ⟨_, rfl⟩
    obtain ⟨bf, hbf⟩ : ∃ q, w3.heap.size = q := ⟨_, rfl⟩
    rw [hw4] at F X ⊢
    rw [hbf] at X ⊢
    clear hw4 hbf
    obtain ⟨zc, u0, u1, u2, u3⟩ := F.out.cal.at_
    go_wp2_with fail
    go_at_call 22
    refine (CC.out _ F.out.cal F.out.iz).mono ?_
    rintro e w5 ⟨A5, n5, d5, rfl, ho5, hb5⟩
    have F := Lib.hid (F.out.call hb5)
    have X := Lib.hid (X.out.call hb5)
    clear zc u0 u1 u2 u3 hb5 CC
    have hl5 := ho5.len
    have hn5 : n5 = 0 := by rw [← hl5]; rfl
    subst hn5
    clear hl5 ho5
    dsimp only
    obtain ⟨p0, p1, p2, p3, -⟩ := X.out
    have zx := X.out.lt
    go_wp2
    go_quiet (fail)
    have F : Hid (LC w (w5.drewN nq) b nm A1 A2 L n1 n2 c1 c2 l ms rs zs we) := Lib.hid (F.out.call (below_drewN (Below.refl _ _) nq))
    obtain ⟨w6, hw6⟩ : ∃ W, w5.drewN nq = W := ⟨_, rfl⟩
    rw [hw6] at F ⊢
    clear hw6 p0 p1 p2 p3 zx X
    go_wp2_with fail
    go_at_call 24
    refine (CPE.out _ F.out.iz).mono ?_
    rintro e w7 ⟨p, rfl, hp1, hp2, hper, q7, rfl⟩
    have F := Lib.hid (F.out.call (below_drewN (Below.refl _ _) q7))
    obtain ⟨w7, hw7⟩ : ∃ W, w6.drewN q7 = W := ⟨_, rfl⟩
    rw [hw7] at F ⊢
    clear hw7 CPE
    have HPER := Lib.hid hper
    clear hper
    go_wp2_with fail
    go_at_call 25
    refine (CLV.out _ F.out.iz).mono ?_
    rintro e w8 ⟨A8, n8, c8, d8, rfl, ho8, hb8⟩
    have F := Lib.hid (F.out.call hb8)
    have hl8 := ho8.len
    have hlv := HLV.out
    rw [hl8] at hlv
    clear hb8 ho8 CLV hl8
    have i1 : ¬ ((p : Int) < 1) := by omega
    have i2 : ¬ ((l : Int) < (p : Int)) := by omega
    have i2n : ¬ (l < p) := by omega
    have i2d : decide ((l : Int) < (p : Int)) = false := decide_eq_false i2
    have i3 : ¬ ((n8 : Int) < 1) := by omega
    go_wp2
    obtain ⟨bc, oc, rfl, _, _⟩ := F.out.iz.2 (by omega)
    go_loopw [18] (fun t wr => ∃ i : Nat, t = .int .i64 (i : Int) ∧ i ≤ l ∧ Hid (Ints wr wr.heap.size (some ⟨bc, oc, none⟩) l zs) ∧ Hid (Below w.heap.size w wr)) (fun t _ => l - (intOf t).toNat)
    case atStart => exact ⟨0, rfl, Nat.zero_le _, Lib.hid F.out.iz, Lib.hid F.out.bl⟩
    case round =>
      obtain ⟨i, rfl, hi, HI, HB9⟩ := hrel
      have iw : IntKind.i64.wrap ((i : Int) + (p : Int)) = (i : Int) + (p : Int) := IntWalk.i64_in _ (by omega)
      by_cases hlt : i + p < l
      · have j1 : (i : Int) + (p : Int) < (l : Int) := by omega
        have j2 : (i : Int) < (l : Int) := by omega
        have j3 : 0 ≤ (i : Int) + (p : Int) := by omega
        obtain ⟨b1, o1, e1, hb1, hc1⟩ := HI.out.2 (by omega)
        injection e1 with e1
        injection e1 with e1 e2 _
        subst e1 e2
        have k1 := hc1 i (by omega)
        have k2 := hc1 (i + p) hlt
        have hpe := HPER.out i hlt
        rw [← hpe] at k2
        obtain ⟨z, hz⟩ : ∃ z, zs.getD i 0 = z := ⟨_, rfl⟩
        rw [hz] at k1 k2
        have hne : (z != z) = false := by simp
        have hnat : ((i : Int) + (p : Int)).toNat = i + p := by omega
        clear hc1 hpe hz hb1
        go_wp2
        go_quiet (fail)
        have HI2 : Hid (Ints (wr.drewN nq) (wr.drewN nq).heap.size _ l zs) := Lib.hid (HI.out.drewN nq)
        have HB2 := Lib.hid (below_drewN HB9.out nq)
        obtain ⟨w9, hw9⟩ : ∃ W, wr.drewN nq = W := ⟨_, rfl⟩
        rw [hw9] at HI2 HB2 ⊢
        clear hw9
        go_wp2
        go_roundw
        case rel => exact ⟨i + 1, by go_num, by omega, HI2, HB2⟩
        case measure => simp [intOf]; omega
      · have j1 : ¬ ((i : Int) + (p : Int) < (l : Int)) := by omega
        go_wp2
        go_ret
        exact ⟨rfl, HB9.out⟩
  · obtain ⟨yr, mo, sh, ri⟩ := x
    dsimp only at hyr hmo1 hmo2 hri hsh
    rw [hN] at cN
    simp only [outF, fV] at cN
    have cD := fun (W : World) (hC : CalRd W b nm A1 A2 n1 n2 c1 c2 we ms rs) => specDaysInMonth_any nm A1 A2 n1 n2 c1 c2 W.heap.size ms rs we yr mo W hC.m hC.r (Nat.le_refl _) HV.out (inB_mk (by omega) (by omega)) (inB_mk hmo1 hmo2)
    rw [← hri] at cD
    have hsr : (sh == ri) = false := by simpa using hsh
    have hsn : ¬ (sh = ri) := hsh
    have hyl : ¬ (yr < (Y : Int)) := by omega
    have hrr : (ri != ri) = false := by simp
    have hyb : (Y : Int) ≤ yr ∧ yr ≤ 9999 := by omega
    have HYR := Lib.hid hyr
    have CDM := Lib.hid cD
    have CN := Lib.hid cN
    clear cN cD hN hri hY hyr
    rcases hfc with ⟨h40, hfc⟩ | ⟨h40, hfc⟩
    · rw [hfc, i9] at cC
      have CC := Lib.hid cC
      clear cC hfc i9 hA h40
      obtain ⟨zc, u0, u1, u2, u3⟩ := F.out.cal.at_
      go_wp2_with fail
      go_at_call 21
      refine (CN.out _ F.out.cal F.out.iz).mono ?_
      rintro e w3 ⟨rfl, hb3⟩
      clear zc u0 u1 u2 u3
      have hal := alb0 w3 (.cells #[.int .i64 yr, .int .i64 mo, .int .i64 sh, .int .i64 ri] 51)
      have F := Lib.hid ((F.out.call hb3).call hal)
      have X := Lib.hid (flt_new w3 51 yr mo sh ri)
      clear hb3 hal CN
      go_upto_region 6 with fail
      obtain ⟨w4, hw4⟩ : ∃ W, w3.alloc (.cells #[.int .i64 yr, .int .i64 mo, .int .i64 sh, .int .i64 ri] 51) = W := ⟨_, rfl⟩
      obtain ⟨bf, hbf⟩ : ∃ q, w3.heap.size = q := ⟨_, rfl⟩
      rw [hw4] at F X ⊢
      rw [hbf] at X ⊢
      clear hw4 hbf
      obtain ⟨zc, u0, u1, u2, u3⟩ := F.out.cal.at_
      go_wp2_with fail
      go_at_call 22
      refine (CC.out _ F.out.cal F.out.iz).mono ?_
      rintro e w5 ⟨A5, n5, d5, rfl, ho5, hb5⟩
      have F := Lib.hid (F.out.call hb5)
      have X := Lib.hid (X.out.call hb5)
      clear zc u0 u1 u2 u3 hb5 CC
      have hl5 := ho5.len
      have hn5 : n5 = 0 := by rw [← hl5]; rfl
      subst hn5
      clear hl5 ho5
      dsimp only
      obtain ⟨p0, p1, p2, p3, -⟩ := X.out
      have zx := X.out.lt
      go_wp2
      go_quiet (fail)
      have F : Hid (LC w (w5.drewN nq) b nm A1 A2 L n1 n2 c1 c2 l ms rs zs we) := Lib.hid (F.out.call (below_drewN (Below.refl _ _) nq))
      have X : Hid (FltAt (w5.drewN nq) bf yr mo sh ri) := Lib.hid (X.out.call (below_drewN (Below.refl _ _) nq))
      obtain ⟨w5b, hw5b⟩ : ∃ W, w5.drewN nq = W := ⟨_, rfl⟩
      rw [hw5b] at F X ⊢
      clear hw5b p0 p1 p2 p3 zx
      obtain ⟨zc, u0, u1, u2, u3⟩ := F.out.cal.at_
      obtain ⟨p0, p1, p2, p3, -⟩ := X.out
      have zx := X.out.lt
      go_wp2_with fail
      go_at_call 23
      refine (CDM.out _ F.out.cal).mono ?_
      rintro e w6 ⟨rfl, hb6⟩
      have F := Lib.hid (F.out.call hb6)
      have X := Lib.hid (X.out.call hb6)
      clear zc u0 u1 u2 u3 p0 p1 p2 p3 zx hb6
      obtain ⟨p0, p1, p2, p3, -⟩ := X.out
      have zx := X.out.lt
      go_upto_region 13 with fail
      clear p0 p1 p2 p3 zx X CDM
      go_wp2_with fail
      go_at_call 24
      refine (CPE.out _ F.out.iz).mono ?_
      rintro e w7 ⟨p, rfl, hp1, hp2, hper, q7, rfl⟩
      have F := Lib.hid (F.out.call (below_drewN (Below.refl _ _) q7))
      obtain ⟨w7, hw7⟩ : ∃ W, w6.drewN q7 = W := ⟨_, rfl⟩
      rw [hw7] at F ⊢
      clear hw7 CPE
      have HPER := Lib.hid hper
      clear hper
      go_wp2_with fail
      go_at_call 25
      refine (CLV.out _ F.out.iz).mono ?_
      rintro e w8 ⟨A8, n8, c8, d8, rfl, ho8, hb8⟩
      have F := Lib.hid (F.out.call hb8)
      have hl8 := ho8.len
      have hlv := HLV.out
      rw [hl8] at hlv
      clear hb8 ho8 CLV hl8
      have i1 : ¬ ((p : Int) < 1) := by omega
      have i2 : ¬ ((l : Int) < (p : Int)) := by omega
      have i2n : ¬ (l < p) := by omega
      have i2d : decide ((l : Int) < (p : Int)) = false := decide_eq_false i2
      have i3 : ¬ ((n8 : Int) < 1) := by omega
      go_wp2
      obtain ⟨bc, oc, rfl, _, _⟩ := F.out.iz.2 (by omega)
      go_loopw [18] (fun t wr => ∃ i : Nat, t = .int .i64 (i : Int) ∧ i ≤ l ∧ Hid (Ints wr wr.heap.size (some ⟨bc, oc, none⟩) l zs) ∧ Hid (Below w.heap.size w wr)) (fun t _ => l - (intOf t).toNat)
      case atStart => exact ⟨0, rfl, Nat.zero_le _, Lib.hid F.out.iz, Lib.hid F.out.bl⟩
      case round =>
        obtain ⟨i, rfl, hi, HI, HB9⟩ := hrel
        have iw : IntKind.i64.wrap ((i : Int) + (p : Int)) = (i : Int) + (p : Int) := IntWalk.i64_in _ (by omega)
        by_cases hlt : i + p < l
        · have j1 : (i : Int) + (p : Int) < (l : Int) := by omega
          have j2 : (i : Int) < (l : Int) := by omega
          have j3 : 0 ≤ (i : Int) + (p : Int) := by omega
          obtain ⟨b1, o1, e1, hb1, hc1⟩ := HI.out.2 (by omega)
          injection e1 with e1
          injection e1 with e1 e2 _
          subst e1 e2
          have k1 := hc1 i (by omega)
          have k2 := hc1 (i + p) hlt
          have hpe := HPER.out i hlt
          rw [← hpe] at k2
          obtain ⟨z, hz⟩ : ∃ z, zs.getD i 0 = z := ⟨_, rfl⟩
          rw [hz] at k1 k2
          have hne : (z != z) = false := by simp
          have hnat : ((i : Int) + (p : Int)).toNat = i + p := by omega
          clear hc1 hpe hz hb1
          go_wp2
          go_quiet (fail)
          have HI2 : Hid (Ints (wr.drewN nq) (wr.drewN nq).heap.size _ l zs) := Lib.hid (HI.out.drewN nq)
          have HB2 := Lib.hid (below_drewN HB9.out nq)
          obtain ⟨w9, hw9⟩ : ∃ W, wr.drewN nq = W := ⟨_, rfl⟩
          rw [hw9] at HI2 HB2 ⊢
          clear hw9
          go_wp2
          go_roundw
          case rel => exact ⟨i + 1, by go_num, by omega, HI2, HB2⟩
          case measure => simp [intOf]; omega
        · have j1 : ¬ ((i : Int) + (p : Int) < (l : Int)) := by omega
          go_wp2
          go_ret
          exact ⟨rfl, HB9.out⟩
    · rcases hA with ⟨hj10, t, hA⟩ | ⟨hj10, hA⟩
      · rw [hA] at hfc
        rw [hfc, i9] at cC
        have CC := Lib.hid cC
        clear cC hfc i9 hA h40
        obtain ⟨zc, u0, u1, u2, u3⟩ := F.out.cal.at_
        go_wp2_with fail
        go_at_call 21
        refine (CN.out _ F.out.cal F.out.iz).mono ?_
        rintro e w3 ⟨rfl, hb3⟩
        clear zc u0 u1 u2 u3
        have hal := alb0 w3 (.cells #[.int .i64 yr, .int .i64 mo, .int .i64 sh, .int .i64 ri] 51)
        have F := Lib.hid ((F.out.call hb3).call hal)
        have X := Lib.hid (flt_new w3 51 yr mo sh ri)
        clear hb3 hal CN
        go_upto_region 6 with fail
        obtain ⟨w4, hw4⟩ : ∃ W, w3.alloc (.cells #[.int .i64 yr, .int .i64 mo, .int .i64 sh, .int .i64 ri] 51) = W := ⟨_, rfl⟩
        obtain ⟨bf, hbf⟩ : ∃ q, w3.heap.size = q := ⟨_, rfl⟩
        rw [hw4] at F X ⊢
        rw [hbf] at X ⊢
        clear hw4 hbf
        obtain ⟨zc, u0, u1, u2, u3⟩ := F.out.cal.at_
        go_wp2_with fail
        go_at_call 22
        refine (CC.out _ F.out.cal F.out.iz).mono ?_
        rintro e w5 ⟨A5, n5, d5, rfl, ho5, hb5⟩
        have F := Lib.hid (F.out.call hb5)
        have X := Lib.hid (X.out.call hb5)
        clear zc u0 u1 u2 u3 hb5 CC
        have hl5 := ho5.len
        obtain ⟨g5, rfl, hg5, hg6, q0, q1, q2, q3⟩ := ownF_head ho5
        have hn5 : 1 ≤ n5 := by rw [← hl5]; simp
        have hn6 : (0 : Int) < (n5 : Int) := by omega
        have hn7 : 0 < n5 := by omega
        have hn8 : ¬ (n5 = 0) := by omega
        have hn9 : ((n5 : Int) == 0) = false := by rw [beq_eq_false_iff_ne]; omega
        have ya : (yr != yr) = false := by simp
        have yb : (mo != mo) = false := by simp
        have yc : (sh != sh) = false := by simp
        clear hl5 ho5
        dsimp only
        obtain ⟨p0, p1, p2, p3, -⟩ := X.out
        have zx := X.out.lt
        go_wp2
        go_quiet (fail)
        have F : Hid (LC w (w5.drewN nq) b nm A1 A2 L n1 n2 c1 c2 l ms rs zs we) := Lib.hid (F.out.call (below_drewN (Below.refl _ _) nq))
        have X : Hid (FltAt (w5.drewN nq) bf yr mo sh ri) := Lib.hid (X.out.call (below_drewN (Below.refl _ _) nq))
        obtain ⟨w5b, hw5b⟩ : ∃ W, w5.drewN nq = W := ⟨_, rfl⟩
        rw [hw5b] at F X ⊢
        clear hw5b p0 p1 p2 p3 zx q0 q1 q2 q3
        obtain ⟨zc, u0, u1, u2, u3⟩ := F.out.cal.at_
        obtain ⟨p0, p1, p2, p3, -⟩ := X.out
        have zx := X.out.lt
        go_wp2_with fail
        go_at_call 23
        refine (CDM.out _ F.out.cal).mono ?_
        rintro e w6 ⟨rfl, hb6⟩
        have F := Lib.hid (F.out.call hb6)
        have X := Lib.hid (X.out.call hb6)
        clear zc u0 u1 u2 u3 p0 p1 p2 p3 zx hb6
        obtain ⟨p0, p1, p2, p3, -⟩ := X.out
        have zx := X.out.lt
        go_upto_region 13 with fail
        clear p0 p1 p2 p3 zx X CDM
        go_wp2_with fail
        go_at_call 24
        refine (CPE.out _ F.out.iz).mono ?_
        rintro e w7 ⟨p, rfl, hp1, hp2, hper, q7, rfl⟩
        have F := Lib.hid (F.out.call (below_drewN (Below.refl _ _) q7))
        obtain ⟨w7, hw7⟩ : ∃ W, w6.drewN q7 = W := ⟨_, rfl⟩
        rw [hw7] at F ⊢
        clear hw7 CPE
        have HPER := Lib.hid hper
        clear hper
        go_wp2_with fail
        go_at_call 25
        refine (CLV.out _ F.out.iz).mono ?_
        rintro e w8 ⟨A8, n8, c8, d8, rfl, ho8, hb8⟩
        have F := Lib.hid (F.out.call hb8)
        have hl8 := ho8.len
        have hlv := HLV.out
        rw [hl8] at hlv
        clear hb8 ho8 CLV hl8
        have i1 : ¬ ((p : Int) < 1) := by omega
        have i2 : ¬ ((l : Int) < (p : Int)) := by omega
        have i2n : ¬ (l < p) := by omega
        have i2d : decide ((l : Int) < (p : Int)) = false := decide_eq_false i2
        have i3 : ¬ ((n8 : Int) < 1) := by omega
        go_wp2
        obtain ⟨bc, oc, rfl, _, _⟩ := F.out.iz.2 (by omega)
        go_loopw [18] (fun t wr => ∃ i : Nat, t = .int .i64 (i : Int) ∧ i ≤ l ∧ Hid (Ints wr wr.heap.size (some ⟨bc, oc, none⟩) l zs) ∧ Hid (Below w.heap.size w wr)) (fun t _ => l - (intOf t).toNat)
        case atStart => exact ⟨0, rfl, Nat.zero_le _, Lib.hid F.out.iz, Lib.hid F.out.bl⟩
        case round =>
          obtain ⟨i, rfl, hi, HI, HB9⟩ := hrel
          have iw : IntKind.i64.wrap ((i : Int) + (p : Int)) = (i : Int) + (p : Int) := IntWalk.i64_in _ (by omega)
          by_cases hlt : i + p < l
          · have j1 : (i : Int) + (p : Int) < (l : Int) := by omega
            have j2 : (i : Int) < (l : Int) := by omega
            have j3 : 0 ≤ (i : Int) + (p : Int) := by omega
            obtain ⟨b1, o1, e1, hb1, hc1⟩ := HI.out.2 (by omega)
            injection e1 with e1
            injection e1 with e1 e2 _
            subst e1 e2
            have k1 := hc1 i (by omega)
            have k2 := hc1 (i + p) hlt
            have hpe := HPER.out i hlt
            rw [← hpe] at k2
            obtain ⟨z, hz⟩ : ∃ z, zs.getD i 0 = z := ⟨_, rfl⟩
            rw [hz] at k1 k2
            have hne : (z != z) = false := by simp
            have hnat : ((i : Int) + (p : Int)).toNat = i + p := by omega
            clear hc1 hpe hz hb1
            go_wp2
            go_quiet (fail)
            have HI2 : Hid (Ints (wr.drewN nq) (wr.drewN nq).heap.size _ l zs) := Lib.hid (HI.out.drewN nq)
            have HB2 := Lib.hid (below_drewN HB9.out nq)
            obtain ⟨w9, hw9⟩ : ∃ W, wr.drewN nq = W := ⟨_, rfl⟩
            rw [hw9] at HI2 HB2 ⊢
            clear hw9
            go_wp2
            go_roundw
            case rel => exact ⟨i + 1, by go_num, by omega, HI2, HB2⟩
            case measure => simp [intOf]; omega
          · have j1 : ¬ ((i : Int) + (p : Int) < (l : Int)) := by omega
            go_wp2
            go_ret
            exact ⟨rfl, HB9.out⟩
      · rw [hA] at hfc
        rw [hfc, i9] at cC
        have CC := Lib.hid cC
        have hy9 : ¬ (yr ≤ (Y : Int) + 9) := by have := HYR.out; omega
        clear cC hfc i9 hA h40
        obtain ⟨zc, u0, u1, u2, u3⟩ := F.out.cal.at_
        go_wp2_with fail
        go_at_call 21
        refine (CN.out _ F.out.cal F.out.iz).mono ?_
        rintro e w3 ⟨rfl, hb3⟩
        clear zc u0 u1 u2 u3
        have hal := alb0 w3 (.cells #[.int .i64 yr, .int .i64 mo, .int .i64 sh, .int .i64 ri] 51)
        have F := Lib.hid ((F.out.call hb3).call hal)
        have X := Lib.hid (flt_new w3 51 yr mo sh ri)
        clear hb3 hal CN
        go_upto_region 6 with fail
        obtain ⟨w4, hw4⟩ : ∃ W, w3.alloc (.cells #[.int .i64 yr, .int .i64 mo, .int .i64 sh, .int .i64 ri] 51) = W := ⟨_, rfl⟩
        obtain ⟨bf, hbf⟩ : ∃ q, w3.heap.size = q := ⟨_, rfl⟩
        rw [hw4] at F X ⊢
        rw [hbf] at X ⊢
        clear hw4 hbf
        obtain ⟨zc, u0, u1, u2, u3⟩ := F.out.cal.at_
        go_wp2_with fail
        go_at_call 22
        refine (CC.out _ F.out.cal F.out.iz).mono ?_
        rintro e w5 ⟨A5, n5, d5, rfl, ho5, hb5⟩
        have F := Lib.hid (F.out.call hb5)
        have X := Lib.hid (X.out.call hb5)
        clear zc u0 u1 u2 u3 hb5 CC
        have hl5 := ho5.len
        have hn5 : n5 = 0 := by rw [← hl5]; rfl
        subst hn5
        clear hl5 ho5
        dsimp only
        obtain ⟨p0, p1, p2, p3, -⟩ := X.out
        have zx := X.out.lt
        go_wp2
        go_quiet (fail)
        have F : Hid (LC w (w5.drewN nq) b nm A1 A2 L n1 n2 c1 c2 l ms rs zs we) := Lib.hid (F.out.call (below_drewN (Below.refl _ _) nq))
        have X : Hid (FltAt (w5.drewN nq) bf yr mo sh ri) := Lib.hid (X.out.call (below_drewN (Below.refl _ _) nq))
        obtain ⟨w5b, hw5b⟩ : ∃ W, w5.drewN nq = W := ⟨_, rfl⟩
        rw [hw5b] at F X ⊢
        clear hw5b p0 p1 p2 p3 zx
        obtain ⟨zc, u0, u1, u2, u3⟩ := F.out.cal.at_
        obtain ⟨p0, p1, p2, p3, -⟩ := X.out
        have zx := X.out.lt
        go_wp2_with fail
        go_at_call 23
        refine (CDM.out _ F.out.cal).mono ?_
        rintro e w6 ⟨rfl, hb6⟩
        have F := Lib.hid (F.out.call hb6)
        have X := Lib.hid (X.out.call hb6)
        clear zc u0 u1 u2 u3 p0 p1 p2 p3 zx hb6
        obtain ⟨p0, p1, p2, p3, -⟩ := X.out
        have zx := X.out.lt
        go_upto_region 13 with fail
        clear p0 p1 p2 p3 zx X CDM
        go_wp2_with fail
        go_at_call 24
        refine (CPE.out _ F.out.iz).mono ?_
        rintro e w7 ⟨p, rfl, hp1, hp2, hper, q7, rfl⟩
        have F := Lib.hid (F.out.call (below_drewN (Below.refl _ _) q7))
        obtain ⟨w7, hw7⟩ : ∃ W, w6.drewN q7 = W := ⟨_, rfl⟩
        rw [hw7] at F ⊢
        clear hw7 CPE
        have HPER := Lib.hid hper
        clear hper
        go_wp2_with fail
        go_at_call 25
        refine (CLV.out _ F.out.iz).mono ?_
        rintro e w8 ⟨A8, n8, c8, d8, rfl, ho8, hb8⟩
        have F := Lib.hid (F.out.call hb8)
        have hl8 := ho8.len
        have hlv := HLV.out
        rw [hl8] at hlv
        clear hb8 ho8 CLV hl8
        have i1 : ¬ ((p : Int) < 1) := by omega
        have i2 : ¬ ((l : Int) < (p : Int)) := by omega
        have i2n : ¬ (l < p) := by omega
        have i2d : decide ((l : Int) < (p : Int)) = false := decide_eq_false i2
        have i3 : ¬ ((n8 : Int) < 1) := by omega
        go_wp2
        obtain ⟨bc, oc, rfl, _, _⟩ := F.out.iz.2 (by omega)
        go_loopw [18] (fun t wr => ∃ i : Nat, t = .int .i64 (i : Int) ∧ i ≤ l ∧ Hid (Ints wr wr.heap.size (some ⟨bc, oc, none⟩) l zs) ∧ Hid (Below w.heap.size w wr)) (fun t _ => l - (intOf t).toNat)
        case atStart => exact ⟨0, rfl, Nat.zero_le _, Lib.hid F.out.iz, Lib.hid F.out.bl⟩
        case round =>
          obtain ⟨i, rfl, hi, HI, HB9⟩ := hrel
          have iw : IntKind.i64.wrap ((i : Int) + (p : Int)) = (i : Int) + (p : Int) := IntWalk.i64_in _ (by omega)
          by_cases hlt : i + p < l
          · have j1 : (i : Int) + (p : Int) < (l : Int) := by omega
            have j2 : (i : Int) < (l : Int) := by omega
            have j3 : 0 ≤ (i : Int) + (p : Int) := by omega
            obtain ⟨b1, o1, e1, hb1, hc1⟩ := HI.out.2 (by omega)
            injection e1 with e1
            injection e1 with e1 e2 _
            subst e1 e2
            have k1 := hc1 i (by omega)
            have k2 := hc1 (i + p) hlt
            have hpe := HPER.out i hlt
            rw [← hpe] at k2
            obtain ⟨z, hz⟩ : ∃ z, zs.getD i 0 = z := ⟨_, rfl⟩
            rw [hz] at k1 k2
            have hne : (z != z) = false := by simp
            have hnat : ((i : Int) + (p : Int)).toNat = i + p := by omega
            clear hc1 hpe hz hb1
            go_wp2
            go_quiet (fail)
            have HI2 : Hid (Ints (wr.drewN nq) (wr.drewN nq).heap.size _ l zs) := Lib.hid (HI.out.drewN nq)
            have HB2 := Lib.hid (below_drewN HB9.out nq)
            obtain ⟨w9, hw9⟩ : ∃ W, wr.drewN nq = W := ⟨_, rfl⟩
            rw [hw9] at HI2 HB2 ⊢
            clear hw9
            go_wp2
            go_roundw
            case rel => exact ⟨i + 1, by go_num, by omega, HI2, HB2⟩
            case measure => simp [intOf]; omega
          · have j1 : ¬ ((i : Int) + (p : Int) < (l : Int)) := by omega
            go_wp2
            go_ret
            exact ⟨rfl, HB9.out⟩

set_option maxRecDepth 100000 in
theorem lifted (os : Os) (started : os.Started) (H : Type) (enc : TypeId × Value → H) :
    ReturnsInHanded {} Try.checked os 5 .any (Rows.fnFaultsSpec.pre6 enc Try.prog Try.f5 Rows.fnFaultsRow.domain false) (Rows.fnFaultsSpec.post enc Try.prog Try.f5 false true false false) := by
  refine returnsInHanded_of_change (C := Try.checked) own started (by kernel_rfl) Try.func5
    (ChangeSpec.witness6 (enc := enc) (C := Try.checked) false ⟨#[], #[.slice none 0 0, .slice none 0 0], []⟩ 8 (by kernel_rfl) (by kernel_rfl) (by kernel_rfl) (by kernel_rfl)) ?_
  intro W base args ds gs before hval0 hW hcnd _
  have hval : ∀ (j : Nat) t v, Try.f5.params[j]? = some t → args[j]? = some v → Value.okWide Try.prog W .any base t v := hval0
  have hW' := hW
  obtain ⟨p, q, hA0, hV, rfl, hfz, hnd⟩ := hW
  have hA : DataW.TrodAll enc Try.prog W 0 (fun _ => true) true Try.f5.params.toList args.toList ds p := hA0
  rw [Try.params5] at hA hval
  obtain ⟨v0, vs0, d0, ds0, p0, q0, hargs, rfl, rfl, h0, r0⟩ := trodAll_cons hA
  obtain ⟨v1, vs1, d1, ds1, p1, q1, rfl, rfl, rfl, h1, r1⟩ := trodAll_cons r0
  obtain ⟨rfl, rfl, rfl⟩ := trodAll_nil r1
  obtain rfl : args = #[v0, v1] := by cases args; simp_all
  obtain ⟨rfl, rfl⟩ := trodVars_none hV
  have k0 := h0
  have lt0 : ∀ x ∈ p0, x.block < W.heap.size := by obtain ⟨m, hm⟩ := k0; exact DataW.trod_lt m _ _ _ hm
  have k1 := h1
  have lt1 : ∀ x ∈ p1, x.block < W.heap.size := by obtain ⟨m, hm⟩ := k1; exact DataW.trod_lt m _ _ _ hm
  obtain ⟨A0, l0, c0, rfl, R0⟩ := open_Bytes (hval 0 22 v0 rfl rfl) h0
  obtain ⟨A1, l1, c1, rfl, R1⟩ := open_Bytes (hval 1 22 v1 rfl rfl) h1
  clear hA0 hval0
  refine (walk A0 l0 c0 A1 l1 c1 W R0 R1).mono fun e W' ⟨he, bel⟩ => ?_
  subst he
  exact ⟨_, rfl, _, _, _, [], _, [], hW', trodAll_mk1 (shut_bool Try.underlying4 _), (trodAll_cons_mk (Below.trod laidOut (by kernel_rfl) (of_decide_eq_true (by kernel_rfl)) k0 bel lt0) (trodAll_cons_mk (Below.trod laidOut (by kernel_rfl) (of_decide_eq_true (by kernel_rfl)) k1 bel lt1) trodAll_mk0)), rfl, bel.frame _, fun h => by cases h⟩
theorem over : Rows.fnFaultsRow.holds Try.pinned (OpenSpec.ofChange Rows.fnFaultsSpec) :=
  OpenClaim.holds_of_wide 5 Try.f5 rfl rfl rfl rfl rfl rfl rfl ⟨rfl, rfl, rfl, rfl, rfl⟩ rfl rfl rfl rfl rfl (by kernel_rfl) Try.func5 (by kernel_rfl)
    (of_decide_eq_true (by kernel_rfl)) (by unfold Func.isWrapper; first | (rw [if_pos (by decide +kernel)]; kernel_rfl) | (rw [if_neg (by decide +kernel)]; exact ⟨rfl, rfl⟩))
    (fun os started H enc _ => lifted os started H enc)
theorem proved : Rows.FnFaultsSaid := over
#print axioms proved
end Go.Proofs.Ytmbdedkelckedaa.fnFaults
