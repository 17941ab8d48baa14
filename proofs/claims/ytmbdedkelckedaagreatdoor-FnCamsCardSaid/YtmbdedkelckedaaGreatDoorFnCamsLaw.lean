/- The law FnCams returns true for all bytes: the cam of some years has no faults in these years, no cam of as many years has fewer faults in a cycle than the best one, and what is written of a cam is read. No conditions but that the listed variables read as listed. -/
import Derived.Test.YtmbdedkelckedaaGreatDoorLawCam
import Derived.Test.YtmbdedkelckedaaGreatDoorHandedAnd
import Derived.Test.YtmbdedkelckedaaGreatDoorCards
import Derived.Test.YtmbdedkelckedaaGreatDoorTie
import Derived.ProofKit
import Derived.ChangeMaps5
import Derived.Lay
import Derived.LaidLaws
import Derived.OpenShut
import Derived.SevenTiedAt
import Derived.ChangeOld
import Derived.BigQuiet
namespace Go.Proofs.YtmbdedkelckedaaGreatDoor.fnCams
open Go.ChangeShapes Go.WideShapes Go.ChangeAt Go.RowKit Go.ChangeMaps
set_option linter.unusedVariables false
set_option linter.unusedSimpArgs false
theorem own : ownKnob Tryz.prog.godebug = none := by kernel_rfl
theorem laidOut : laidOutB Tryz.prog = true := by kernel_rfl
theorem star : "*" ++ "errors.errorString" = "*errors.errorString" := by decide
theorem row_only (u : TypeId) (h : Tryz.prog.typeName? 3 u = some "*errors.errorString") : u = 174 :=
  typeName_ptr_named (nm := "errors.errorString") (by rw [star]; kernel_rfl) (by kernel_rfl) (by decide) u (by rw [star]; exact h)
theorem lays {W : World} (h : laidMetH Tryz.prog Rows.fnCamsRow.laid W) (hs : W.ShapedOpen Tryz.prog) : ∃ m, Lays W m := by
  rw [MakeChecks.laidMetH_plain _ _ _ (by kernel_rfl)] at h
  have h2 := laidMet.tail (laidMet.tail h)
  have h4 := laidMet.tail (laidMet.tail h2)
  have h5 := laidMet.tail h4
  have e : (Rows.laid_internal_strconv_uint64pow10 : DataW Unit) = Lib.tabData .u64 Lib.pow10Tab := by kernel_rfl
  rw [e] at h2
  obtain ⟨m, hm⟩ := maxlen_of hs
  refine ⟨m, lays_of ?_ ?_ ?_ hm⟩
  · exact Lib.tabIs_of_head (g := (Tryz.prog.globalNamed "internal/strconv.uint64pow10").getD 0) (by kernel_rfl) (by kernel_rfl) Tryz.underlying169 Tryz.underlying90 (by kernel_rfl) (by kernel_rfl) h2
  · obtain ⟨a0, s0, hv0, -, -, -⟩ := laid_sentinel (tp := 174) (te := 176) (ts := 9) (ti := 110) (g := (Tryz.prog.globalNamed "strconv.ErrSyntax").getD 0) h5 (by kernel_rfl) (by kernel_rfl) Tryz.underlying110 row_only Tryz.underlying174 Tryz.underlying176 rfl rfl Tryz.underlying9 (by kernel_rfl) (by kernel_rfl)
    exact ⟨_, _, hv0⟩
  · obtain ⟨a0, s0, hv0, -, -, -⟩ := laid_sentinel (tp := 174) (te := 176) (ts := 9) (ti := 110) (g := (Tryz.prog.globalNamed "strconv.ErrRange").getD 0) h4 (by kernel_rfl) (by kernel_rfl) Tryz.underlying110 row_only Tryz.underlying174 Tryz.underlying176 rfl rfl Tryz.underlying9 (by kernel_rfl) (by kernel_rfl)
    exact ⟨_, _, hv0⟩
set_option maxRecDepth 4000 in
set_option maxHeartbeats 8000000 in
theorem walk (A : Option Addr) (n c : Nat) (w : World) (h : CameB w A n) (LY : ∃ m, Lays w m) :
    Calls Tryz.prog 3 #[.slice A n c] w fun e w' => e = .returned (.bool true) ∧ Below w.heap.size w w' := by
  obtain ⟨hb, hn⟩ := h
  obtain ⟨mx, hLY⟩ := LY
  have cF := fun W => a2Long_any A none n 0 c 0 W hn (by omega)
  cases hd : (decide ((3000 : Int) < n) || decide ((3000 : Int) < (0 : Nat)))
  rotate_left
  · rw [hd] at cF
    have CF := Lib.hid cF
    clear cF hd hb hLY
    go_enter Tryz.func3, Tryz.ntmps3
    go_wp2_with (go_at_call 5; refine (CF.out _).mono ?_; rintro e w' ⟨rfl, rfl⟩)
    go_ret
    exact ⟨rfl, by (repeat (first | with_reducible exact Below.refl _ _ | with_reducible refine below_alloc ?_ _ | with_reducible refine below_drewN ?_ _ | with_reducible refine Below.drew ?_ | ((with_reducible refine below_set ?_ ?_ _); rotate_left; (focus (first | (simp; done) | (simp; omega) | omega))) | with_reducible refine below_call ?_ (by assumption)))⟩
  have hbig0 : (n : Int) ≤ 3000 := by simpa using hd
  have hbig : n ≤ 3000 := by omega
  rw [hd] at cF
  have CF := Lib.hid cF
  have HB := Lib.hid hb
  have HL := Lib.hid hLY
  clear cF hd hb hbig0 hLY
  go_enter Tryz.func3, Tryz.ntmps3
  go_wp2_with fail
  go_at_call 5
  refine (CF.out _).mono ?_
  rintro e w' ⟨rfl, rfl⟩
  go_wp2_with fail
  go_at_call 6
  refine (A2Cam_any A n c _ HB.out (by omega)).mono ?_
  rintro e w1 ⟨⟨nm, A1, A2, n1, n2, c1, c2, ms, rs, we, L, l, cc, zs, rfl, t1, t2, hc1, hc2, hv, hz, hvc, hmd, hl, hcc⟩, B1⟩
  have hlen := hz.len
  obtain ⟨-, -, hn6, -, ⟨m1, m2⟩, we1, we2⟩ := vCal_yes hv
  obtain ⟨-, z2, z3⟩ := vCam_yes hvc
  rw [hlen] at z2 z3
  have hal := alb0 w1 (.cells #[.string nm, .slice A1 n1 c1, .slice A2 n2 c2, .int .i64 we] 27)
  have F : Hid (LC w (w1.alloc (.cells #[.string nm, .slice A1 n1 c1, .slice A2 n2 c2, .int .i64 we] 27)) w1.heap.size nm A1 A2 L n1 n2 c1 c2 l ms rs zs we) := Lib.hid
    ⟨cal_new w1 27 nm A1 A2 n1 n2 c1 c2 we, Tri.more (Tri.below t1 hal) hal.size, Tri.more (Tri.below t2 hal) hal.size, (hz.below hal).more hal.size, below_call B1 hal⟩
  clear hz t1 t2 B1 HB hal
  go_upto_region 4 with fail
  obtain ⟨w2, hw2⟩ : ∃ W, w1.alloc (.cells #[.string nm, .slice A1 n1 c1, .slice A2 n2 c2, .int .i64 we] 27) = W := ⟨_, rfl⟩
  obtain ⟨b, hbe⟩ : ∃ q, w1.heap.size = q := ⟨_, rfl⟩
  rw [hw2, hbe] at F
  rw [hw2, hbe]
  clear hw2 hbe
  -- the years
  have hdm := Nat.div_add_mod l n1
  rw [hmd, Nat.add_zero, Nat.mul_comm] at hdm
  have q1 : (l : Int).tdiv (n1 : Int) = ((l / n1 : Nat) : Int) := nat_tdiv l n1
  have q2 : (l : Int) / (n1 : Int) = ((l / n1 : Nat) : Int) := (Int.natCast_ediv l n1).symm
  have q3 : ¬ ((n1 : Int) = 0) := by omega
  have q4 : ((n1 : Int) == 0) = false := by rw [beq_eq_false_iff_ne]; omega
  have q5 : ¬ (n1 = 0) := by omega
  have hsl : l / n1 ≤ l := Nat.div_le_self l n1
  generalize l / n1 = s at *
  have hs1 : 1 ≤ s := by
    rcases Nat.eq_zero_or_pos s with e | e
    · rw [e, Nat.zero_mul] at hdm; omega
    · exact e
  have hsn : s * n1 ≤ 260 := by omega
  have r1 : IntKind.i64.wrap ((s : Nat) : Int) = (s : Int) := IntWalk.i64_in _ (by omega)
  have r2 : (s : Int) - 1 = ((s - 1 : Nat) : Int) := by omega
  have r3 : IntKind.i64.wrap ((s : Int) - 1) = ((s - 1 : Nat) : Int) := by rw [r2]; exact IntWalk.i64_in _ (by omega)
  have hask : askV nm n1 n2 ms rs we zs l = 0 := by rw [ask_good hv hvc, if_pos hmd]
  -- the own cam
  have ho1 := ofL_at ms rs n1 n2 0 s
  have hovc : vCam (ofL ms rs n1 n2 0 s) = true := vCam_of (ofL_mem hv 0 s) (by rw [ho1.1]; exact Nat.le_trans (by decide) (Nat.mul_le_mul hs1 m1)) (by rw [ho1.1]; exact hsn)
  have hoask : askV nm n1 n2 ms rs we (ofL ms rs n1 n2 0 s) (s * n1) = 0 := by rw [ask_good hv hovc, if_pos (Nat.mul_mod_left s n1)]
  have hon := own_none ms rs (n' := n2) (s := s) m1 s (Nat.le_refl _)
  have hoR : rCF nm n1 n2 ms rs we (ofL ms rs n1 n2 0 s) (s * n1) 0 ((s - 1 : Nat) : Int) = ([], 0) := by
    have := rCF_ok (nm := nm) (n := n1) (n' := n2) (ms := ms) (rs := rs) (cw := we) (zs := ofL ms rs n1 n2 0 s) (l := s * n1) (F := 0) (N := s - 1) hoask (by rw [inB_mk (by omega) (by omega), inB_mk (by omega) (by omega), decide_eq_true (by omega)]; rfl) (by rw [show s - 1 + 1 = s by omega, hon]; simp)
    rw [show s - 1 + 1 = s by omega, hon, Nat.zero_add] at this
    exact this
  -- the best cam
  have hB := rBC_ok (nm := nm) (n := n1) (n' := n2) (ms := ms) (rs := rs) (cw := we) (s := s) hv (inB_mk (by omega) (by have := (div_le_bd (y := s) m1).mpr hsn; omega))
  have hbo := camB_ok (s := s) hv hs1 hsn
  have hbask : askV nm n1 n2 ms rs we (camB ms rs n1 n2 s) (s * n1) = 0 := by rw [ask_good hv hbo.1, if_pos (Nat.mul_mod_left s n1)]
  have hmin := best_min (ms := ms) (rs := rs) (n := n1) (n' := n2) (zs := zs) (l := l) hs1 m1 hdm.symm
  have hpos : 0 ≤ cntFaults ms rs n1 n2 (camB ms rs n1 n2 s) (s * n1) := by unfold cntFaults; omega
  have CO := Lib.hid (fun (W : World) (hm : Months W W.heap.size A1 n1 ms) (hr : Rules W W.heap.size A2 n2 rs) => CamOf_any nm A1 A2 n1 n2 c1 c2 W.heap.size ms rs we s W hm hr (Nat.le_refl _) hc1 hc2 hv hs1 hsn)
  have cC := fun (W : World) (hm : Months W W.heap.size A1 n1 ms) (hr : Rules W W.heap.size A2 n2 rs) (L6 : Option Addr) (k6 : Nat) (hk1 : s * n1 ≤ k6) (hk2 : k6 ≤ 9223372036854775807) (hI : Ints W W.heap.size L6 (s * n1) (ofL ms rs n1 n2 0 s)) => CamFaults_any nm A1 A2 L6 n1 n2 c1 c2 (s * n1) k6 W.heap.size ms rs we (ofL ms rs n1 n2 0 s) 0 ((s - 1 : Nat) : Int) W hm hr hI (Nat.le_refl _) hc1 hc2 (by omega) (by omega) hk1 hk2
  rw [hoR] at cC
  have cB := fun (W : World) (hm : Months W W.heap.size A1 n1 ms) (hr : Rules W W.heap.size A2 n2 rs) => BestCam_any nm A1 A2 n1 n2 c1 c2 W.heap.size ms rs we (s : Int) W hm hr (Nat.le_refl _) hc1 hc2 (by omega)
  rw [hB] at cB
  have cG := fun (W : World) (hm : Months W W.heap.size A1 n1 ms) (hr : Rules W W.heap.size A2 n2 rs) (L6 : Option Addr) (k6 : Nat) (hk1 : s * n1 ≤ k6) (hk2 : k6 ≤ 9223372036854775807) (hI : Ints W W.heap.size L6 (s * n1) (camB ms rs n1 n2 s)) => FaultCount_any nm A1 A2 L6 n1 n2 c1 c2 (s * n1) k6 W.heap.size ms rs we (camB ms rs n1 n2 s) W hm hr hI (Nat.le_refl _) hc1 hc2 hk1 hk2 hbask
  have cH := fun (W : World) (hm : Months W W.heap.size A1 n1 ms) (hr : Rules W W.heap.size A2 n2 rs) (hI : Ints W W.heap.size L l zs) => FaultCount_any nm A1 A2 L n1 n2 c1 c2 l cc W.heap.size ms rs we zs W hm hr hI (Nat.le_refl _) hc1 hc2 hl hcc hask
  have hbl := hbo.2
  have hrt := read_tx hvc
  have htl := tx_len hvc
  rw [hlen] at hrt htl
  have cT := fun (W : World) (hI : Ints W W.heap.size L l zs) => CamText_ok L l cc W.heap.size zs W hI (Nat.le_refl _) hvc
  obtain ⟨tx, htx⟩ : ∃ t, txK [32] zs l = t := ⟨_, rfl⟩
  rw [htx] at hrt htl cT
  have cR := fun (W : World) (hb : Below w.heap.size w W) => (ReadCam_any ⟨tx.toArray⟩ mx W (by show tx.toArray.size ≤ _; rw [List.size_toArray]; omega) (HL.out.keep hb))
  unfold ReadCamR at cR
  rw [show (⟨tx.toArray⟩ : ByteArray).data.toList = tx from rfl, hrt, hvc] at cR
  simp only [if_true] at cR
  generalize camB ms rs n1 n2 s = bz at *
  generalize cntFaults ms rs n1 n2 bz (s * n1) = V1 at *
  generalize cntFaults ms rs n1 n2 zs l = V2 at *
  generalize ofL ms rs n1 n2 0 s = oz at *
  have e1 : (V1 == V1) = true := by simp
  have CC := Lib.hid cC
  have CB := Lib.hid cB
  have CG := Lib.hid cG
  have CH := Lib.hid cH
  have CT := Lib.hid cT
  have CR := Lib.hid cR
  have hovl := ho1.1
  clear cC cB cG cH cT cR hask ho1 hovc hoask hon hoR hB hbo hbask hrt htx hdm hmd hv hvc
  obtain ⟨sn, hsn2⟩ : ∃ q, s * n1 = q := ⟨_, rfl⟩
  rw [hsn2] at CO CC CG hbl hovl hsn
  clear hsn2
  obtain ⟨zc, u0, u1, u2, u3⟩ := F.out.at_
  go_wp2_with fail
  go_at_call 7
  refine (CO.out _ F.out.m F.out.r).mono ?_
  rintro e w3 ⟨L3, d3, rfl, ho3, hb3⟩
  have I3 := Lib.hid (ho3.ints (Nat.le_refl _))
  have cp3 := own_caps ho3
  have F := Lib.hid (F.out.call hb3)
  clear zc u0 u1 u2 u3 ho3 hb3 CO q1 q2 q3 q4 q5
  obtain ⟨zc, u0, u1, u2, u3⟩ := F.out.at_
  go_wp2_with fail
  (try rw [r3])
  go_at_call 8
  refine (CC.out _ F.out.m F.out.r _ _ cp3.1 cp3.2 I3.out).mono ?_
  rintro e w4 ⟨A4, n4, d4, rfl, ho4, hb4⟩
  have hl4 := ho4.len
  have hn4 : n4 = 0 := by rw [← hl4]; rfl
  subst hn4
  have F := Lib.hid (F.out.call hb4)
  clear zc u0 u1 u2 u3 ho4 hb4 CC I3 hl4
  obtain ⟨zc, u0, u1, u2, u3⟩ := F.out.at_
  go_wp2_with fail
  go_at_call 9
  refine (CB.out _ F.out.m F.out.r).mono ?_
  rintro e w5 ⟨A5, n5, d5, rfl, ho5, hb5⟩
  have hl5 := ho5.len
  have cp5 := own_caps ho5
  have I5 := Lib.hid (ho5.ints (Nat.le_refl _))
  have F := Lib.hid (F.out.call hb5)
  dsimp only at hl5 I5 ⊢
  have hn5 : n5 = sn := by rw [← hl5]; exact hbl
  subst hn5
  clear zc u0 u1 u2 u3 ho5 hb5 CB hl5
  obtain ⟨zc, u0, u1, u2, u3⟩ := F.out.at_
  go_wp2_with fail
  go_at_call 10
  refine (CG.out _ F.out.m F.out.r _ _ cp5.1 cp5.2 I5.out).mono ?_
  rintro e w6 ⟨rfl, hb6⟩
  have F := Lib.hid (F.out.call hb6)
  clear zc u0 u1 u2 u3 hb6 CG I5
  obtain ⟨zc, u0, u1, u2, u3⟩ := F.out.at_
  go_wp2_with fail
  go_at_call 10
  refine (CH.out _ F.out.m F.out.r F.out.iz).mono ?_
  rintro e w7 ⟨rfl, hb7⟩
  have F := Lib.hid (F.out.call hb7)
  clear zc u0 u1 u2 u3 hb7 CH
  go_wp2_with fail
  go_at_call 12
  refine (CT.out _ F.out.iz).mono ?_
  rintro e w8 ⟨rfl, hb8⟩
  have F := Lib.hid (F.out.call hb8)
  clear hb8 CT
  go_wp2_with fail
  go_at_call 11
  refine (CR.out _ F.out.bl).mono ?_
  rintro e w9 ⟨A9, n9, d9, rfl, ho9, hb9⟩
  have hl9 := ho9.len
  have hn9 : n9 = l := by rw [← hl9]; exact hlen
  subst hn9
  have I9 := Lib.hid (ho9.ints (Nat.le_refl _))
  have F := Lib.hid (F.out.call hb9)
  clear ho9 hb9 CR hl9
  go_wp2
  obtain ⟨bc, oc, rfl, _, _⟩ := F.out.iz.2 (by omega)
  obtain ⟨bq, oq, rfl, _, _⟩ := I9.out.2 (by omega)
  go_loopw [19] (fun t wr => ∃ i : Nat, t = .int .i64 (i : Int) ∧ i ≤ n9 ∧ Hid (Ints wr wr.heap.size (some ⟨bc, oc, none⟩) n9 zs) ∧ Hid (Ints wr wr.heap.size (some ⟨bq, oq, none⟩) n9 zs) ∧ Hid (Below w.heap.size w wr)) (fun t _ => n9 - (intOf t).toNat)
  case atStart => exact ⟨0, rfl, Nat.zero_le _, Lib.hid F.out.iz, I9, Lib.hid F.out.bl⟩
  case round =>
    clear I9 F
    obtain ⟨i, rfl, hi, HI, HJ, HB9⟩ := hrel
    by_cases hlt : i < n9
    · have j1 : (i : Int) < (n9 : Int) := by omega
      have j0 : (0 : Int) ≤ (i : Int) := by omega
      obtain ⟨b1, o1, ee1, hb1, hc1'⟩ := HI.out.2 (by omega)
      injection ee1 with ee1
      injection ee1 with ee1 ee2 _
      subst ee1 ee2
      obtain ⟨b2, o2, ee1, hb2, hc2'⟩ := HJ.out.2 (by omega)
      injection ee1 with ee1
      injection ee1 with ee1 ee2 _
      subst ee1 ee2
      have k1 := hc1' i hlt
      have k2 := hc2' i hlt
      obtain ⟨z, hz⟩ : ∃ z, zs.getD i 0 = z := ⟨_, rfl⟩
      rw [hz] at k1 k2
      have hne : (z != z) = false := by simp
      clear hc1' hc2' hz hb1 hb2
      go_wp2
      go_quiet (fail)
      have HI2 : Hid (Ints (wr.drewN nq) (wr.drewN nq).heap.size _ n9 zs) := Lib.hid (HI.out.drewN nq)
      have HJ2 : Hid (Ints (wr.drewN nq) (wr.drewN nq).heap.size _ n9 zs) := Lib.hid (HJ.out.drewN nq)
      have HB2 := Lib.hid (below_drewN HB9.out nq)
      obtain ⟨w9', hw9⟩ : ∃ W, wr.drewN nq = W := ⟨_, rfl⟩
      rw [hw9] at HI2 HJ2 HB2 ⊢
      clear hw9
      go_wp2
      go_roundw
      case rel => exact ⟨i + 1, by go_num, by omega, HI2, HJ2, HB2⟩
      case measure => simp [intOf]; omega
    · have j1 : ¬ ((i : Int) < (n9 : Int)) := by omega
      go_wp2
      go_ret
      exact ⟨rfl, HB9.out⟩
theorem door_met (os : Os) (args : Array Value) : laidMetH Tryz.prog Rows.fnCamsRow.laid ((World.laidAll Tryz.prog os Rows.fnCamsRow.laid).forCall (fun _ _ => 0) ⟨#[], args, []⟩).memory :=
  by rw [MakeChecks.laidMetH_plain _ _ _ (by kernel_rfl)]; exact laidMet_laidAll args (by kernel_rfl) (by kernel_rfl)
set_option maxRecDepth 100000 in
theorem lifted (os : Os) (started : os.Started) (H : Type) (enc : TypeId × Value → H) :
    ReturnsInHanded {} Tryz.checked os 3 .any (fun w args => (Rows.fnCamsSpec.pre enc Tryz.prog Tryz.f3 [] false w args ∧ laidMetH Tryz.prog Rows.fnCamsRow.laid w) ∧ sizedMet enc Tryz.prog Tryz.f3 (OpenSpec.ofChange Rows.fnCamsSpec) false w args)
      (Rows.fnCamsSpec.post enc Tryz.prog Tryz.f3 false true false false) := by
  refine handed_and_shaped (C := Tryz.checked) (X := fun w _ => laidMetH Tryz.prog Rows.fnCamsRow.laid w) (fun _ _ _ hh h => h.of_heap hh) own started (by kernel_rfl) Tryz.func3
    (ChangeSpec.witness_shaped (enc := enc) (C := Tryz.checked) (os := os) (X := fun w _ => laidMetH Tryz.prog Rows.fnCamsRow.laid w) false (World.laidAll Tryz.prog os Rows.fnCamsRow.laid) #[.slice none 0 0] 8 (World.laidAll_os _ _ _) (World.shaped_of_ZipB (by kernel_rfl) (by kernel_rfl)) (by kernel_rfl) (by kernel_rfl) (by kernel_rfl) (door_met os _)) ?_
  intro W base args ds gs before hval0 hW _ _ hL hsh _
  have hval : ∀ (j : Nat) t v, Tryz.f3.params[j]? = some t → args[j]? = some v → Value.okWide Tryz.prog W .any base t v := hval0
  have hW' := hW
  obtain ⟨p, q, hA0, hV, rfl, hfz, hnd⟩ := hW
  have hA : DataW.TrodAll enc Tryz.prog W 0 (fun _ => true) true Tryz.f3.params.toList args.toList ds p := hA0
  rw [Tryz.params3] at hA hval
  obtain ⟨v0, vs0, d0, ds0, p0, q0, hargs, rfl, rfl, h0, r0⟩ := trodAll_cons hA
  obtain ⟨rfl, rfl, rfl⟩ := trodAll_nil r0
  obtain rfl : args = #[v0] := by cases args; simp_all
  obtain ⟨rfl, rfl⟩ := trodVars_none hV
  have k0 := h0
  have lt0 : ∀ x ∈ p0, x.block < W.heap.size := by obtain ⟨m, hm⟩ := k0; exact DataW.trod_lt m _ _ _ hm
  obtain ⟨A0, l0, c0, rfl, R0⟩ := open_Bytes (hval 0 22 v0 rfl rfl) h0
  clear hA0 hval0
  refine (walk A0 l0 c0 W R0 (lays hL hsh)).mono fun e W' ⟨he, bel⟩ => ?_
  subst he
  exact ⟨_, rfl, _, _, _, [], _, [], hW', trodAll_mk1 (shut_bool Tryz.underlying4 _), (trodAll_cons_mk (Below.trod laidOut (by kernel_rfl) (of_decide_eq_true (by kernel_rfl)) k0 bel lt0) trodAll_mk0), rfl, bel.frame _, fun h => by cases h⟩
theorem over : Rows.fnCamsRow.holds Tryz.pinned (OpenSpec.ofChange Rows.fnCamsSpec) :=
  OpenClaim.holds_of_wide 3 Tryz.f3 rfl rfl rfl rfl rfl rfl rfl ⟨rfl, rfl, rfl, rfl, rfl⟩ rfl rfl rfl rfl rfl (by kernel_rfl) Tryz.func3 (by kernel_rfl)
    (of_decide_eq_true (by kernel_rfl)) (by unfold Func.isWrapper; first | (rw [if_pos (by decide +kernel)]; kernel_rfl) | (rw [if_neg (by decide +kernel)]; exact ⟨rfl, rfl⟩))
    (fun os started H enc _ => lifted os started H enc)
theorem proved : Rows.FnCamsCardSaid :=
  Claim7.holds_tied_plain_at .later [] [.data, .data, .data, .data, .sentinel, .sentinel, .pinned] true Rows.fnCamsCard.stood.harness true
    over (fun _ h => by cases h) (by kernel_rfl) (fun _ h => by cases h) fnCams_row_tie rfl ⟨rfl, rfl⟩ (by kernel_rfl) rfl
    (fun f fn hf hfn => by
      obtain rfl : f = 3 := Option.some.inj ((show Tryz.prog.funcNamed Rows.fnCamsRow.func = some 3 by kernel_rfl).symm.trans hf) |>.symm
      obtain rfl : fn = Tryz.f3 := (Option.some.inj (Tryz.func3.symm.trans hfn)).symm
      exact ⟨by kernel_rfl, fun j t ht => by
        rw [Tryz.params3] at ht
        have hm : t ∈ [22] := by simpa using Array.mem_of_getElem? ht
        have hall : ([22].all fun u => !Tryz.prog.wantsStandIn u) = true := by kernel_rfl
        exact (show Tryz.prog.wantsStandIn t = false by simpa using List.all_eq_true.1 hall t hm)⟩)
    (by kernel_rfl)
#print axioms proved
end Go.Proofs.YtmbdedkelckedaaGreatDoor.fnCams
