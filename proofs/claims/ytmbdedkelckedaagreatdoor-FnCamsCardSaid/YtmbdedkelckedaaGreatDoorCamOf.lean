/- The program's cam of some years and its number of faults. Conditions: the calendar is valid, the cam belongs to it, the years are not too many. -/
import Derived.Test.YtmbdedkelckedaaGreatDoorCamsPlain
import Derived.Test.YtmbdedkelckedaaGreatDoorCore6
import Derived.Test.YtmbdedkelckedaaGreatDoorCore9
namespace Go.Proofs.YtmbdedkelckedaaGreatDoor
open Go.RowKit
set_option linter.unusedVariables false
set_option linter.unusedSimpArgs false
set_option maxHeartbeats 4000000 in
theorem CamOf_any (nm : ByteArray) (A A' : Option Addr) (n n' c c' B : Nat) (ms : List Mth) (rs : List Rul) (cw : Int) (s : Nat) (w : World) (h : Months w B A n ms) (h' : Rules w B A' n' rs) (hB : B ≤ w.heap.size) (hn : n ≤ c) (hc : c ≤ 9223372036854775807) (hv : vCal nm n n' ms rs cw = true) (hs : 1 ≤ s) (hsn : s * n ≤ 260) :
    Calls Tryz.prog 7 #[.agg #[.string nm, .slice A n c, .slice A' n' c', .int .i64 cw], .int .i64 0, .int .i64 (s : Int)] w fun e w' => ∃ L cc, e = .returned (.tuple #[.slice L (s * n) cc, .int .i64 0]) ∧ Own w' w.heap.size L (s * n) cc (ofL ms rs n n' 0 s) ∧ Below w.heap.size w w' := by
  have H := Lib.hid (Tri.more h hB)
  have H' := Lib.hid (Tri.more h' hB)
  clear h h'
  obtain ⟨-, -, hn6, -, ⟨n1, n2⟩, -, -⟩ := vCal_yes hv
  have hs2 : s ≤ 260 := Nat.le_trans (Nat.le_mul_of_pos_right s n1) hsn
  have cV := fun (W : World) (hb : Below w.heap.size w W) => ValidCalendar_any nm A A' n n' c c' w.heap.size ms rs cw W (Tri.below H.out hb) (Tri.below H'.out hb) hb.size hn hc (by omega)
  rw [hv] at cV
  have CV := Lib.hid cV
  have cN := fun (W : World) => notched_any nm A A' n n' c c' cw (s : Int) W n1 (by omega)
  rw [inB_mk (by omega) (by have := (div_le_bd (y := s) n1).mpr hsn; omega)] at cN
  have CN := Lib.hid cN
  have CL := Lib.hid (fun (W : World) (hb : Below w.heap.size w W) (Y : Nat) (hY : Y ≤ 260) => isLeap_any nm A A' n n' c c' w.heap.size rs cw (Y : Int) W (Tri.below H'.out hb) hb.size (by omega) (vCal_ev hv) (by omega) (by omega))
  have CD := Lib.hid (fun (W : World) (hb : Below w.heap.size w W) (bb : Bool) (k : Nat) (hk : k < n) => daysOfMonth_any nm A A' n n' c c' w.heap.size ms cw bb ((k : Int) + 1) W (Tri.below H.out hb) hb.size (by omega) (by omega) (by omega))
  have Y1 := Lib.hid (show inB (0 : Int) 0 9999 = true by decide)
  have Y2 := Lib.hid (show inB ((s : Int) - 1) 0 9999 = true from inB_mk (by omega) (by omega))
  have K0 := Lib.hid (cal_new w 27 nm A A' n n' c c' cw)
  have B0 := Lib.hid (alb' w (.cells #[.string nm, .slice A n c, .slice A' n' c', .int .i64 cw] 27))
  have HLN := Lib.hid (fun Y => (ofL_at ms rs n n' 0 Y).1)
  clear cV cN hv
  go_enter Tryz.func7, Tryz.ntmps7
  go_wp2_with fail
  go_at_call 30
  refine (CV.out _ B0.out).mono ?_
  rintro e1 w1 ⟨rfl, hb1⟩
  have K1 := Lib.hid (K0.out.call hb1)
  have B1 := Lib.hid (below_call B0.out hb1)
  clear hb1 K0 B0
  obtain ⟨zc, u0, u1, u2, u3⟩ := K1.out
  go_wp2_with fail
  go_at_call 31
  refine (CN.out _).mono ?_
  rintro e1 w2 ⟨rfl, hb2⟩
  have K2 := Lib.hid (K1.out.call hb2)
  have B2 := Lib.hid (below_call B1.out hb2)
  clear hb2 K1 B1 zc u0 u1 u2 u3
  go_wp2_with (first | (go_at_call 32; refine (isYear_val _ _ _ (by first | exact Y1.out | exact Y2.out)).mono ?_; rintro e1 w' ⟨rfl, rfl⟩) | fail)
  go_loopw [8, 9] (fun a t wr => ∃ (Y m cc : Nat) (L : Option Addr), t = .int .i64 (Y : Int) ∧ Y ≤ s ∧ a = .slice L m cc ∧ Hid (m = Y * n) ∧ Hid (Own wr (w.heap.size + 1) L m cc (ofL ms rs n n' 0 Y)) ∧ Hid (CalAt wr w.heap.size nm A A' n n' c c' cw) ∧ Hid (Below w.heap.size w wr)) (fun _ t _ => s - (intOf t).toNat)
  case atStart => exact ⟨0, 0, 0, none, rfl, Nat.zero_le _, rfl, Lib.hid (by rw [Nat.zero_mul]), Lib.hid Own.nil_, K2, B2⟩
  case round =>
    clear K2 B2
    obtain ⟨Y, m, cc, L, rfl, hY, rfl, hm, HO, K, BL⟩ := hrel
    obtain ⟨zc, u0, u1, u2, u3⟩ := K.out
    by_cases hlt : Y < s
    · have i1 : (Y : Int) < (s : Int) := by omega
      have cL := fun (W : World) (hb : Below w.heap.size w W) => CL.out W hb Y (by omega)
      obtain ⟨bb, hbb⟩ : ∃ bb, leapK rs (Y : Int) n' = bb := ⟨_, rfl⟩
      rw [hbb] at cL
      have CL2 := Lib.hid cL
      have HBB := Lib.hid hbb
      have hjb : Y * n ≤ 260 := Nat.le_trans (Nat.mul_le_mul_right n (Nat.le_of_lt hlt)) hsn
      have HJN := Lib.hid (show (Y + 1) * n = Y * n + n by rw [Nat.add_mul, Nat.one_mul])
      obtain ⟨X, hX⟩ : ∃ X, Y * n = X := ⟨_, rfl⟩
      rw [hX] at HJN hjb hm
      clear hX cL hbb
      go_wp2_with fail
      go_at_call 33
      refine (CL2.out _ BL.out).mono ?_
      rintro e1 w4 ⟨rfl, hb4⟩
      have HO4 := Lib.hid (HO.out.call hb4)
      have K4 := Lib.hid (K.out.call hb4)
      have B4 := Lib.hid (below_call BL.out hb4)
      clear hb4 zc u0 u1 u2 u3 HO K BL
      obtain ⟨zc, u0, u1, u2, u3⟩ := K4.out
      go_wp2
      clear zc u0 u1 u2 u3
      go_loopw [8, 46] (fun a t wr => ∃ (k m cc : Nat) (L : Option Addr), t = .int .i64 (k : Int) ∧ k ≤ n ∧ a = .slice L m cc ∧ Hid (m = X + k) ∧ Hid (Own wr (w.heap.size + 1) L m cc (ofL ms rs n n' 0 Y ++ rowD ms rs n' (Y : Int) k)) ∧ Hid (CalAt wr w.heap.size nm A A' n n' c c' cw) ∧ Hid (Below w.heap.size w wr)) (fun _ t _ => n - (intOf t).toNat)
      case atStart => exact ⟨0, m, cc, L, rfl, Nat.zero_le _, rfl, hm, Lib.hid (by rw [rowD, List.append_nil]; exact HO4.out), K4, B4⟩
      case round =>
        clear HO4 K4 B4 hm
        obtain ⟨k, m, cc, L, rfl, hk, rfl, hm, HO, K, BL⟩ := hrel
        obtain ⟨zc, u0, u1, u2, u3⟩ := K.out
        by_cases hlk : k < n
        · have i2 : (k : Int) < (n : Int) := by omega
          have hmb : m ≤ 10000000 := by have := hm.out; omega
          have cd := fun (W : World) (hb : Below w.heap.size w W) => CD.out W hb bb k hlk
          have hst : ofL ms rs n n' 0 Y ++ rowD ms rs n' (Y : Int) (k + 1) = (ofL ms rs n n' 0 Y ++ rowD ms rs n' (Y : Int) k) ++ [dayB ms bb ((k : Int) + 1)] := by rw [rowD, ← List.append_assoc]; unfold dayK; rw [HBB.out]
          generalize dayB ms bb ((k : Int) + 1) = D at *
          have HST := Lib.hid hst
          have CD2 := Lib.hid cd
          clear cd hst
          go_wp2_with fail
          go_at_call 34
          refine (CD2.out _ BL.out).mono ?_
          rintro e1 w4 ⟨rfl, hb4⟩
          have HO4 := Lib.hid (HO.out.call hb4)
          have K4 := Lib.hid (K.out.call hb4)
          have B4 := Lib.hid (below_call BL.out hb4)
          have z4 := B4.out.size
          have zk4 := K4.out.lt
          clear hb4 zc u0 u1 u2 u3 HO K BL
          go_wp2_with (first | (at_builtin; refine wpList_app rfl _ _ rfl _ (w.heap.size + 1) _ _ _ _ rfl (Own.alloc HO4.out _) w4.heap.size rfl D (by simp) (by omega) (by simp; omega) ?_; intro L5 c5 w5 ho5 hb5; have HO5 := Lib.hid ho5; have K5 := Lib.hid ((K4.out.alloc _).below (by omega) hb5); have HB5 := Lib.hid ((B4.out.alloc B4.out.size _).trans (hb5.mono (by omega))); clear ho5 hb5) | fail)
          go_roundw
          case rel => exact ⟨k + 1, m + 1, c5, L5, by go_num, by omega, rfl, Lib.hid (by have := hm.out; omega), Lib.hid (by rw [HST.out]; exact HO5.out), K5, HB5⟩
          case measure => simp [intOf]; omega
        · have i2 : ¬ ((k : Int) < (n : Int)) := by omega
          have hE : k = n := by omega
          subst hE
          go_wp2
          go_roundw
          case rel => exact ⟨Y + 1, m, cc, L, by go_num, by omega, rfl, Lib.hid (by rw [HJN.out]; exact hm.out), Lib.hid (by rw [ofL, Nat.zero_add]; exact HO.out), K, BL⟩
          case measure => simp [intOf]; omega
    · have i1 : ¬ ((Y : Int) < (s : Int)) := by omega
      have hE : Y = s := by omega
      subst hE
      have hm2 := hm.out
      obtain ⟨sn, hsn2⟩ : ∃ sn, Y * n = sn := ⟨_, rfl⟩
      have HSN := Lib.hid hsn2
      rw [hsn2] at hm2
      subst hm2
      clear hsn2
      go_wp2
      go_ret2
      exact ⟨L, cc, by rw [HSN.out]; rfl, by rw [HSN.out]; exact HO.out.low (by omega), BL.out⟩
set_option maxHeartbeats 1000000 in
theorem FaultCount_any (nm : ByteArray) (A A' L : Option Addr) (n n' c c' l e B : Nat) (ms : List Mth) (rs : List Rul) (cw : Int) (zs : List Int) (w : World) (h : Months w B A n ms) (h' : Rules w B A' n' rs) (hI : Ints w B L l zs) (hB : B ≤ w.heap.size) (hn : n ≤ c) (hc : c ≤ 9223372036854775807) (hle : l ≤ e) (he : e ≤ 9223372036854775807) (hask : askV nm n n' ms rs cw zs l = 0) :
    Calls Tryz.prog 10 #[.agg #[.string nm, .slice A n c, .slice A' n' c', .int .i64 cw], .slice L l e] w fun e w' => e = .returned (.tuple #[.int .i64 (cntFaults ms rs n n' zs l), .int .i64 0]) ∧ Below w.heap.size w w' := by
  have H := Lib.hid (Tri.more h hB)
  have H' := Lib.hid (Tri.more h' hB)
  have HI := Lib.hid (hI.more hB)
  clear h h' hI
  obtain ⟨k1, k2, k3⟩ := ask_yes hask
  obtain ⟨-, z2, z3⟩ := vCam_yes k2
  rw [HI.out.len] at z2 z3
  obtain ⟨-, -, hn6, -, -, -, -⟩ := vCal_yes k1
  have cA := fun (W : World) (hb : Below w.heap.size w W) => askedCam_any nm A A' L n n' c c' l e w.heap.size ms rs cw zs W (Tri.below H.out hb) (Tri.below H'.out hb) (Ints.below HI.out hb) hb.size hn hc (by omega) (by omega)
  rw [hask] at cA
  have CA := Lib.hid cA
  have CF := Lib.hid (fun (W : World) (hb : Below w.heap.size w W) => faultCount_any nm A A' L n n' c c' l e w.heap.size ms rs cw zs W (Tri.below H.out hb) (Tri.below H'.out hb) (Ints.below HI.out hb) hb.size (by omega) z2 z3 hle he k3 k1)
  have K0 := Lib.hid (cal_new w 27 nm A A' n n' c c' cw)
  have B0 := Lib.hid (alb' w (.cells #[.string nm, .slice A n c, .slice A' n' c', .int .i64 cw] 27))
  generalize cntFaults ms rs n n' zs l = V at *
  clear cA hask k1 k2 k3
  go_enter Tryz.func10, Tryz.ntmps10
  go_wp2_with fail
  go_at_call 35
  refine (CA.out _ B0.out).mono ?_
  rintro e1 w1 ⟨rfl, hb1⟩
  have K1 := Lib.hid (K0.out.call hb1)
  have B1 := Lib.hid (below_call B0.out hb1)
  clear hb1 K0 B0
  obtain ⟨zc, u0, u1, u2, u3⟩ := K1.out
  go_wp2_with fail
  go_at_call 39
  refine (CF.out _ B1.out).mono ?_
  rintro e1 w2 ⟨rfl, hb2⟩
  have B2 := Lib.hid (below_call B1.out hb2)
  clear hb2 zc u0 u1 u2 u3
  go_wp2
  go_ret2
  exact ⟨rfl, B2.out⟩
end Go.Proofs.YtmbdedkelckedaaGreatDoor
