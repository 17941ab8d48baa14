/- The day of a number, and the day that lies some days later: the reference's functions. Conditions: the calendar and the days are valid. -/
import Derived.Test.YtmbdedkelckedaaAddDays2
import Derived.Deep.Cut
namespace Go.Proofs.Ytmbdedkelckedaa
open Go.RowKit
set_option linter.unusedVariables false
set_option linter.unusedSimpArgs false
/-- the result's date and the date that is counted on -/
structure DD (w W : World) (b : Nat) (y m d : Int) : Prop where
  rs : DatAt W w.heap.size 0 0 0
  dt : DatAt W b y m d
  bl : Below w.heap.size w W
  lo : w.heap.size < b
section
variable {w W W' : World} {b : Nat} {y m d : Int}
theorem DD.call (h : DD w W b y m d) (hb : Below W.heap.size W W') : DD w W' b y m d := ⟨h.rs.call hb, h.dt.call hb, below_call h.bl hb, h.lo⟩
theorem DD.set0 (h : DD w W b y m d) (v : Int) : DD w (W.setCell ⟨b, 0, none⟩ (.int .i64 v)) b v m d := ⟨h.rs.far (by have := h.lo; show b ≠ w.heap.size; omega) _, h.dt.set0 v, h.bl.setCell (by have := h.lo; show w.heap.size ≤ b; omega) _, h.lo⟩
theorem DD.set1 (h : DD w W b y m d) (v : Int) : DD w (W.setCell ⟨b, 1, none⟩ (.int .i64 v)) b y v d := ⟨h.rs.far (by have := h.lo; show b ≠ w.heap.size; omega) _, h.dt.set1 v, h.bl.setCell (by have := h.lo; show w.heap.size ≤ b; omega) _, h.lo⟩
theorem DD.set2 (h : DD w W b y m d) (v : Int) : DD w (W.setCell ⟨b, 2, none⟩ (.int .i64 v)) b y m v := ⟨h.rs.far (by have := h.lo; show b ≠ w.heap.size; omega) _, h.dt.set2 v, h.bl.setCell (by have := h.lo; show w.heap.size ≤ b; omega) _, h.lo⟩
theorem below_res {a0 a1 a2 : Value} (h : Below w.heap.size w W) : Below w.heap.size w (((W.setCell ⟨w.heap.size, 0, none⟩ a0).setCell ⟨w.heap.size, 1, none⟩ a1).setCell ⟨w.heap.size, 2, none⟩ a2) := ((h.setCell (Nat.le_refl _) _).setCell (Nat.le_refl _) _).setCell (Nat.le_refl _) _
end
theorem l16Last_some {nm : ByteArray} {n n' : Nat} {ms : List Mth} {rs : List Rul} {we : Int} (hv : vCal nm n n' ms rs we = true) (Y : Nat) (hY : Y ≤ 9999) : ∃ L : Int, befK ms rs n n' (Y + 1) ≤ L ∧ L ≤ 12000000 ∧
    ∀ (A A' : Option Addr) (c c' g : Nat) (W : World), CalRd W g nm A A' n n' c c' we ms rs → Calls Try.prog 81 #[.pointer (some ⟨g, 0, none⟩)] W fun e w' => e = .returned (.int .i64 (L - 1)) ∧ Below W.heap.size W w' := by
  have hT : ∃ T, T = 10000 ∧ ∀ (A A' : Option Addr) (c c' g : Nat) (W : World), CalRd W g nm A A' n n' c c' we ms rs → Calls Try.prog 81 #[.pointer (some ⟨g, 0, none⟩)] W fun e w' => e = .returned (.int .i64 (befK ms rs n n' T - 1)) ∧ Below W.heap.size W w' := ⟨10000, rfl, fun A A' c c' g W h => l16Last_any W h hv⟩
  obtain ⟨T, hT, hc⟩ := hT
  have h1 := befK_le hv (show Y + 1 ≤ T by omega)
  have h2 := befK_bd hv T
  exact ⟨befK ms rs n n' T, h1, by omega, hc⟩
set_option maxRecDepth 8000 in
set_option maxHeartbeats 4000000 in
theorem l16Date_any {nm : ByteArray} {A A' : Option Addr} {n n' c c' g : Nat} {ms : List Mth} {rs : List Rul} {we : Int} (w : World) (hC : CalRd w g nm A A' n n' c c' we ms rs) (hv : vCal nm n n' ms rs we = true) (Y k : Nat) (d : Int) (hY : Y ≤ 9999) (hk : k < n) (d1 : 1 ≤ d) (d2 : d ≤ dayK ms rs n' (Y : Int) ((k : Int) + 1)) (N : Int) (hN : N = noK ms rs n n' ((Y : Int), (k : Int) + 1, d)) :
    Calls Try.prog 43 #[.pointer (some ⟨g, 0, none⟩), .int .i64 N] w fun e w' => e = .returned (.tuple #[.agg #[.int .i64 (Y : Int), .int .i64 ((k : Int) + 1), .int .i64 d], .bool true]) ∧ Below w.heap.size w w' := by
  obtain ⟨-, -, hn6, -, ⟨n1, n2⟩, -, -⟩ := vCal_yes hv
  obtain ⟨C, hcy, hC1, hC2⟩ := vCal_cyc hv
  have HC := Lib.hid hC
  have HK := Lib.hid (hC.at_.lt)
  have CC := Lib.hid (fun (W : World) (hb : Below w.heap.size w W) => l15Cycle_any W (HC.out.call hb) hv C hcy)
  have CA := Lib.hid (fun (W : World) (hb : Below w.heap.size w W) (Y : Nat) (hY : Y ≤ 100000) => l15All_any W (HC.out.call hb) hv Y hY)
  obtain ⟨L, hle, hL2, hLc⟩ := l16Last_some hv Y hY
  have CL := Lib.hid (fun (W : World) (hb : Below w.heap.size w W) => hLc A A' c c' g W (HC.out.call hb))
  have CD := Lib.hid (fun (W : World) (hb : Below w.heap.size w W) (j : Nat) (hj : j < n) => l15Days_k g A A' n n' c c' W.heap.size j ms rs (Y : Int) W (HC.out.call hb).at_.lt (HC.out.call hb).at_.c1 (HC.out.call hb).at_.c2 (HC.out.call hb).m (HC.out.call hb).r (Nat.le_refl _) (by omega) (by omega) (vCal_ev hv) (by omega) (by omega) hj)
  have hin := noK_in hv hk d1 d2
  rw [← hN] at hin
  have bY := befK_bd hv Y
  have hN0 : 0 ≤ N := by omega
  have hN1 : N ≤ 12000000 := by omega
  have CI := Lib.hid (fun W => l00In_val N 0 (L - 1) W true (inB_mk hN0 (by omega)))
  have bC := befK_bd hv C
  have hD1 : 1 ≤ befK ms rs n n' C := by omega
  obtain ⟨Q, hQ⟩ : ∃ Q : Nat, N / befK ms rs n n' C = (Q : Int) := Int.eq_ofNat_of_zero_le (Int.ediv_nonneg hN0 (by omega))
  have hdm := Int.mul_ediv_add_emod N (befK ms rs n n' C)
  have hR0 := Int.emod_nonneg N (show befK ms rs n n' C ≠ 0 by omega)
  have hmul := befK_mul hv hcy Q
  have hS : C * Q ≤ Y := by
    refine Decidable.byContradiction fun h => ?_
    have := befK_le hv (show Y + 1 ≤ C * Q by omega)
    rw [hmul] at this
    rw [hQ, Int.mul_comm] at hdm
    omega
  have t1 : N.tdiv (befK ms rs n n' C) = (Q : Int) := by rw [Int.tdiv_eq_ediv_of_nonneg hN0]; exact hQ
  have t3 : N.tmod (befK ms rs n n' C) = N % (befK ms rs n n' C) := Int.tmod_eq_emod_of_nonneg hN0
  have hR : N % befK ms rs n n' C = N - befK ms rs n n' (C * Q) := by rw [hmul]; rw [hQ, Int.mul_comm] at hdm; omega
  have HF := Lib.hid (fun (j : Nat) (hj : j < Y) => (show yrK ms rs n n' j ≤ N - befK ms rs n n' j by
    have h1 := befK_le hv (show j + 1 ≤ Y by omega)
    rw [befK] at h1; omega))
  have HG := Lib.hid (show N - befK ms rs n n' Y < yrK ms rs n n' Y by have h1 := hin.2; rw [befK] at h1; omega)
  have hNk : N = befK ms rs n n' Y + monK ms rs n' (Y : Int) k + d - 1 := by rw [hN, noK_k]
  have HH := Lib.hid (fun (i : Nat) (hi : i < k) => (show dayK ms rs n' (Y : Int) ((i : Int) + 1) ≤ N - befK ms rs n n' Y - monK ms rs n' (Y : Int) i by
    have h1 := monK_le hv (Y : Int) (show i + 1 ≤ k by omega) (by omega)
    rw [monK] at h1; omega))
  have HM := Lib.hid (monK_bd hv (Y : Int))
  have HD2 := Lib.hid d2
  have HDB := Lib.hid (fun (i : Nat) (hi : i < n) => dayK_bd (y := (Y : Int)) (m := (i : Int) + 1) hv (by omega) (by omega))
  have HB := Lib.hid (befK_bd hv)
  have HYB := Lib.hid (yrK_bd hv)
  have hQ2 : (Q : Int) ≤ 12000000 := by
    have h2 := Int.ediv_le_self (befK ms rs n n' C) hN0
    omega
  have hCQ : (Q : Int) * (C : Int) = ((C * Q : Nat) : Int) := by push_cast; rw [Int.mul_comm]
  have hSN := befK_bd hv (C * Q)
  generalize C * Q = S at *
  have HR := Lib.hid hR
  clear hR hmul hdm hin hC hv hcy d2 hN hle hLc
  generalize hDC : befK ms rs n n' C = D at *
  generalize N % D = R at *
  have r1 : IntKind.i64.wrap (Q : Int) = (Q : Int) := IntWalk.i64_in _ (by omega)
  have r2 : IntKind.i64.wrap ((Q : Int) * (C : Int)) = (S : Int) := by rw [hCQ]; exact IntWalk.i64_in _ (by omega)
  have e0 : ¬ (D = 0) := by omega
  have e1 : (D == 0) = false := by rw [beq_eq_false_iff_ne]; omega
  have hNK := Lib.hid hNk
  have HN1 := Lib.hid hN1
  have HSN := Lib.hid hSN
  clear hNk hDC hN1 hQ2 hL2 hSN bY bC hCQ
  go_enter Try.func43, Try.ntmps43
  go_wp2_with fail
  obtain ⟨W0, hW0⟩ : ∃ W, w.alloc (.cells #[.int .i64 0, .int .i64 0, .int .i64 0] 29) = W := ⟨_, rfl⟩
  have D0 := Lib.hid (hW0 ▸ dat_new w 29 0 0 0)
  have B0 := Lib.hid (hW0 ▸ alb' w (.cells #[.int .i64 0, .int .i64 0, .int .i64 0] 29))
  rw [hW0]
  clear hW0
  go_at_call 81
  refine (CL.out _ B0.out).mono ?_
  rintro e2 w1 ⟨rfl, hb1⟩
  have D1 := Lib.hid (D0.out.call hb1)
  have B1 := Lib.hid (below_call B0.out hb1)
  clear hb1 D0 B0
  go_wp2_with fail
  go_at_call 54
  refine (CI.out _).mono ?_
  rintro e2 w' ⟨rfl, rfl⟩
  go_wp2_with fail
  go_at_call 82
  refine (CC.out _ B1.out).mono ?_
  rintro e2 w2 ⟨rfl, hb2⟩
  have D2 := Lib.hid (D1.out.call hb2)
  have B2 := Lib.hid (below_call B1.out hb2)
  have z2 := D2.out.lt
  clear hb2 D1 B1
  have D3 := Lib.hid (show DD w (w2.alloc (.cells #[.int .i64 (S : Int), .int .i64 1, .int .i64 0] 29)) w2.heap.size (S : Int) 1 0 from ⟨D2.out.alloc _, dat_new _ _ _ _ _, below_alloc B2.out _, z2⟩)
  clear D2 B2
  go_wp2
  obtain ⟨b, hb⟩ : ∃ b, w2.heap.size = b := ⟨_, rfl⟩
  rw [hb] at D3 ⊢
  clear hb
  go_loopw [9] (fun a wr => ∃ Z : Nat, Z ≤ Y ∧ a = .int .i64 (N - befK ms rs n n' Z) ∧ Hid (DD w wr b (Z : Int) 1 0)) (fun a _ => (intOf a).toNat)
  case atStart => exact ⟨S, hS, congrArg (Value.int .i64) HR.out, D3⟩
  case round =>
    clear D3 r1 r2 t1 t3 hQ e0 e1 CC CL CI HR
    obtain ⟨Z, hj, rfl, HD⟩ := hrel
    obtain ⟨p0, p1, p2, pf⟩ := HD.out.dt
    have f0 := pf 0
    clear pf
    have zb := HD.out.dt.lt
    have bZ := HB.out Z
    have yZ := HYB.out Z
    have cA := fun (W : World) (hb : Below w.heap.size w W) => CA.out W hb Z (by omega)
    have hn1 := HN1.out
    by_cases hlt : Z < Y
    · have hge := HF.out Z hlt
      have hst : befK ms rs n n' (Z + 1) = befK ms rs n n' Z + yrK ms rs n n' Z := rfl
      obtain ⟨M1, hM1⟩ : ∃ M1, befK ms rs n n' (Z + 1) = M1 := ⟨_, rfl⟩
      have HM1 := Lib.hid hM1
      rw [hM1] at hst
      clear hM1
      generalize befK ms rs n n' Z = M0 at *
      generalize yrK ms rs n n' Z = E at *
      have i1 : E ≤ N - M0 := by omega
      have CA1 := Lib.hid cA
      clear cA
      go_wp2_with fail
      go_at_call 83
      refine (CA1.out _ HD.out.bl).mono ?_
      rintro e2 w4 ⟨rfl, hb4⟩
      have HD4 := Lib.hid (HD.out.call hb4)
      clear hb4 p0 p1 p2 f0 zb HD
      obtain ⟨p0, p1, p2, pf⟩ := HD4.out.dt
      have f0 := pf 0
      clear pf
      have zb := HD4.out.dt.lt
      go_wp2_with fail
      go_at_call 83
      refine (CA1.out _ HD4.out.bl).mono ?_
      rintro e2 w5 ⟨rfl, hb5⟩
      have HD5 := Lib.hid (HD4.out.call hb5)
      clear hb5 p0 p1 p2 f0 zb HD4
      obtain ⟨p0, p1, p2, pf⟩ := HD5.out.dt
      have f0 := pf 0
      clear pf
      have zb := HD5.out.dt.lt
      have HD6 := Lib.hid (HD5.out.set0 ((Z : Int) + 1))
      clear HD5
      go_wp2
      go_roundw
      case rel => exact ⟨Z + 1, by omega, congrArg (Value.int .i64) (by have := HM1.out; omega), by simpa using HD6⟩
      case measure => simp [intOf]; omega
    · have hE : Z = Y := by omega
      subst hE
      have hg := HG.out
      have HX := Lib.hid (show N - befK ms rs n n' Z = monK ms rs n' (Z : Int) k + d - 1 by have := hNK.out; omega)
      have bX : 0 ≤ N - befK ms rs n n' Z ∧ N - befK ms rs n n' Z ≤ 3000 := by have := HX.out; have := HM.out k (by omega); have := HD2.out; have := HM.out n (Nat.le_refl _); omega
      clear HF HG hNK CA HYB HB hj hlt hS HN1
      generalize befK ms rs n n' Z = M0 at *
      generalize yrK ms rs n n' Z = E at *
      obtain ⟨x, hx⟩ : ∃ x, N - M0 = x := ⟨_, rfl⟩
      rw [hx] at HX hg bX HH ⊢
      have i1 : ¬ (E ≤ x) := by omega
      have CA1 := Lib.hid cA
      clear cA
      go_wp2_with fail
      go_at_call 83
      refine (CA1.out _ HD.out.bl).mono ?_
      rintro e2 w4 ⟨rfl, hb4⟩
      have HD4 := Lib.hid (HD.out.call hb4)
      clear hb4 p0 p1 p2 f0 zb HD CA1 yZ
      go_wp2
      go_loopw [9] (fun a wr => ∃ i : Nat, i ≤ k ∧ a = .int .i64 (x - monK ms rs n' (Z : Int) i) ∧ Hid (DD w wr b (Z : Int) ((i : Int) + 1) 0)) (fun a _ => (intOf a).toNat)
      case atStart => exact ⟨0, Nat.zero_le _, congrArg (Value.int .i64) (by show _ = x - 0; omega), by simpa using HD4⟩
      case round =>
        clear HD4
        obtain ⟨i, hi, rfl, HD⟩ := hrel
        obtain ⟨p0, p1, p2, pf⟩ := HD.out.dt
        have f1 := pf 1
        have f2 := pf 2
        clear pf
        have zb := HD.out.dt.lt
        have bM := HM.out i (by omega)
        have cD := fun (W : World) (hb : Below w.heap.size w W) => CD.out W hb i (by omega)
        have j2 : (i : Int) + 1 - 1 = (i : Int) := by omega
        have j3 : IntKind.i64.wrap ((i : Int) + 1 - 1) = (i : Int) := by rw [j2]; exact IntWalk.i64_in _ (by omega)
        by_cases hlt : i < k
        · have hge := HH.out i hlt
          have hst : monK ms rs n' (Z : Int) (i + 1) = monK ms rs n' (Z : Int) i + dayK ms rs n' (Z : Int) ((i : Int) + 1) := rfl
          have bM2 := HM.out (i + 1) (by omega)
          have bF := HDB.out i (by omega)
          obtain ⟨M1, hM1⟩ : ∃ M1, monK ms rs n' (Z : Int) (i + 1) = M1 := ⟨_, rfl⟩
          have HM1 := Lib.hid hM1
          rw [hM1] at hst bM2
          clear hM1
          generalize monK ms rs n' (Z : Int) i = M2 at *
          generalize dayK ms rs n' (Z : Int) ((i : Int) + 1) = F at *
          have i1 : F ≤ x - M2 := by omega
          have CD1 := Lib.hid cD
          clear cD
          go_wp2_with fail
          go_at_call 55
          refine (CD1.out _ HD.out.bl).mono ?_
          rintro e2 w5 ⟨rfl, q, rfl⟩
          have HD5 := Lib.hid (HD.out.call (below_drewN (Below.refl _ _) q))
          obtain ⟨w5, hw5⟩ : ∃ W, wr.drewN q = W := ⟨_, rfl⟩
          rw [hw5] at HD5 ⊢
          clear hw5 p0 p1 p2 f1 f2 zb HD
          obtain ⟨p0, p1, p2, pf⟩ := HD5.out.dt
          have f1 := pf 1
          clear pf
          have zb := HD5.out.dt.lt
          go_wp2_with fail
          go_at_call 55
          refine (CD1.out _ HD5.out.bl).mono ?_
          rintro e2 w6 ⟨rfl, q, rfl⟩
          have HD6 := Lib.hid (HD5.out.call (below_drewN (Below.refl _ _) q))
          obtain ⟨w6, hw6⟩ : ∃ W, w5.drewN q = W := ⟨_, rfl⟩
          rw [hw6] at HD6 ⊢
          clear hw6 p0 p1 p2 f1 zb HD5
          obtain ⟨p0, p1, p2, pf⟩ := HD6.out.dt
          have f1 := pf 1
          clear pf
          have zb := HD6.out.dt.lt
          have HD7 := Lib.hid (HD6.out.set1 ((i : Int) + 1 + 1))
          clear HD6
          go_wp2
          go_roundw
          case rel => exact ⟨i + 1, by omega, congrArg (Value.int .i64) (by have := HM1.out; omega), by simpa using HD7⟩
          case measure => simp [intOf]; omega
        · have hE : i = k := by omega
          subst hE
          have hd2 := HD2.out
          have hxx := HX.out
          generalize monK ms rs n' (Z : Int) i = M2 at *
          generalize dayK ms rs n' (Z : Int) ((i : Int) + 1) = F at *
          have i1 : ¬ (F ≤ x - M2) := by omega
          have i3 : x - M2 + 1 = d := by omega
          have CD1 := Lib.hid cD
          clear cD hxx hx
          go_wp2_with fail
          go_at_call 55
          refine (CD1.out _ HD.out.bl).mono ?_
          rintro e2 w5 ⟨rfl, q, rfl⟩
          have HD5 := Lib.hid (HD.out.call (below_drewN (Below.refl _ _) q))
          obtain ⟨w5, hw5⟩ : ∃ W, wr.drewN q = W := ⟨_, rfl⟩
          rw [hw5] at HD5 ⊢
          clear hw5 p0 p1 p2 f1 f2 zb HD
          obtain ⟨p0, p1, p2, pf⟩ := HD5.out.dt
          have f2 := pf 2
          clear pf
          have zb := HD5.out.dt.lt
          have HD6 := Lib.hid (HD5.out.set2 d)
          go_upto_region 13 with fail
          clear p0 p1 p2 f2 zb HD5
          obtain ⟨w6, hw6⟩ : ∃ W, w5.setCell ⟨b, 2, none⟩ (.int .i64 d) = W := ⟨_, rfl⟩
          (try rw [i3])
          rw [hw6] at HD6 ⊢
          clear hw6
          obtain ⟨p0, p1, p2, pf⟩ := HD6.out.dt
          obtain ⟨q0, q1, q2, qf⟩ := HD6.out.rs
          have g0 := qf 0
          have g1 := qf 1
          have g2 := qf 2
          clear pf qf
          have zb := HD6.out.dt.lt
          have zr := HD6.out.rs.lt
          go_wp2
          refine bodyPost_ret (v := .tuple #[.agg #[.int .i64 (Z : Int), .int .i64 ((i : Int) + 1), .int .i64 d], .bool true]) ?_ rfl ⟨rfl, below_res HD6.out.bl⟩
          simp [results, Try.results43, go_sem, *]
set_option maxHeartbeats 4000000 in
theorem specAddDays_any (nm : ByteArray) (A A' : Option Addr) (n n' c c' B : Nat) (ms : List Mth) (rs : List Rul) (we y m d y2 m2 d2 t : Int) (w : World) (h : Months w B A n ms) (h' : Rules w B A' n' rs) (hB : B ≤ w.heap.size) (hv : vCal nm n n' ms rs we = true)
    (h1 : dOk ms rs n n' y m d = true) (h2 : dOk ms rs n n' y2 m2 d2 = true) (ht : noK ms rs n n' (y2, m2, d2) = noK ms rs n n' (y, m, d) + t) (t0 : 0 ≤ t) (t1 : t ≤ 20000000) :
    Calls Try.prog 11 #[.agg #[.string nm, .slice A n c, .slice A' n' c', .int .i64 we], .agg #[.int .i64 y, .int .i64 m, .int .i64 d], .int .i64 t] w fun e w' => e = .returned (.tuple #[.agg #[.int .i64 y2, .int .i64 m2, .int .i64 d2], .int .i64 0]) ∧ Below w.heap.size w w' := by
  have H := Lib.hid (Tri.more h hB)
  have H' := Lib.hid (Tri.more h' hB)
  clear h h'
  obtain ⟨-, -, hn6, -, ⟨n1, n2⟩, -, -⟩ := vCal_yes hv
  obtain ⟨⟨a0, a1⟩, ⟨b0, b1⟩, c0, c1⟩ := dOk_yes h1
  obtain ⟨⟨a2, a3⟩, ⟨b2, b3⟩, c2, c3⟩ := dOk_yes h2
  obtain ⟨Y, rfl⟩ := Int.eq_ofNat_of_zero_le a0
  obtain ⟨Y2, rfl⟩ := Int.eq_ofNat_of_zero_le a2
  obtain ⟨k, rfl, hk⟩ := to_k b0 b1
  obtain ⟨k2, rfl, hk2⟩ := to_k b2 b3
  have hd60 := dayK_bd (y := (Y : Int)) hv b0 b1
  have hin := noK_in hv hk c0 c1
  have hbY := befK_bd hv (Y + 1)
  have hbY0 := befK_bd hv Y
  obtain ⟨W1, hW1⟩ : ∃ W, ((w.alloc (.cells #[.string nm, .slice A n c, .slice A' n' c', .int .i64 we] 27)).alloc (.cells #[.int .i64 (Y : Int), .int .i64 ((k : Int) + 1), .int .i64 d] 29)).alloc (.cells #[.int .i64 0, .int .i64 0, .int .i64 0] 29) = W := ⟨_, rfl⟩
  have B1 := Lib.hid (hW1 ▸ ((((Below.refl w.heap.size w).alloc (Nat.le_refl _) _).alloc (by first | (simp; done) | (simp; omega)) _).alloc (by first | (simp; done) | (simp; omega)) _ : Below w.heap.size w (((w.alloc (.cells #[.string nm, .slice A n c, .slice A' n' c', .int .i64 we] 27)).alloc (.cells #[.int .i64 (Y : Int), .int .i64 ((k : Int) + 1), .int .i64 d] 29)).alloc (.cells #[.int .i64 0, .int .i64 0, .int .i64 0] 29))))
  have K1 := Lib.hid (hW1 ▸ ((cal_new w 27 nm A A' n n' c c' we).alloc (.cells #[.int .i64 (Y : Int), .int .i64 ((k : Int) + 1), .int .i64 d] 29)).alloc (.cells #[.int .i64 0, .int .i64 0, .int .i64 0] 29))
  have D1 : Hid (DatAt W1 (w.heap.size + 1) (Y : Int) ((k : Int) + 1) d) := Lib.hid (hW1 ▸ (by have := (dat_new (w.alloc (.cells #[.string nm, .slice A n c, .slice A' n' c', .int .i64 we] 27)) 29 (Y : Int) ((k : Int) + 1) d).alloc (.cells #[.int .i64 0, .int .i64 0, .int .i64 0] 29); simpa using this))
  have R1 : Hid (DatAt W1 (w.heap.size + 1 + 1) 0 0 0) := Lib.hid (hW1 ▸ (by have := dat_new ((w.alloc (.cells #[.string nm, .slice A n c, .slice A' n' c', .int .i64 we] 27)).alloc (.cells #[.int .i64 (Y : Int), .int .i64 ((k : Int) + 1), .int .i64 d] 29)) 29 0 0 0; simpa using this))
  have HC := Lib.hid (fun (W : World) (hb : Below w.heap.size w W) (hK : CalAt W w.heap.size nm A A' n n' c c' we) => (⟨hK, Tri.more (Tri.below H.out hb) hb.size, Tri.more (Tri.below H'.out hb) hb.size⟩ : CalRd W w.heap.size nm A A' n n' c c' we ms rs))
  have cO := fun (W : World) (hb : Below w.heap.size w W) (hK : CalAt W w.heap.size nm A A' n n' c c' we) => l15Ok_any w.heap.size nm A A' n n' c c' w.heap.size ms rs we W hK (Tri.below H.out hb) (Tri.below H'.out hb) hb.size (by omega) (by omega) (fun j hj => by have := (vCal_evs hv j hj).1; omega)
  rw [hv] at cO
  have cK := fun (W : World) (hb : Below w.heap.size w W) (hK : CalAt W w.heap.size nm A A' n n' c c' we) => l16Ok_any w.heap.size nm A A' n n' c c' w.heap.size ms rs we (Y : Int) ((k : Int) + 1) d W hK (Tri.below H.out hb) (Tri.below H'.out hb) hb.size (by omega) (by omega) (vCal_ev hv)
  rw [h1] at cK
  have CY := Lib.hid (fun (W : World) (hb : Below w.heap.size w W) (hK : CalAt W w.heap.size nm A A' n n' c c' we) => l16Day_any W (HC.out W hb hK) hv Y k d (by omega) hk c0 (by omega))
  have CT := Lib.hid (fun (W : World) (hb : Below w.heap.size w W) (hK : CalAt W w.heap.size nm A A' n n' c c' we) => l16Date_any W (HC.out W hb hK) hv Y2 k2 d2 (by omega) hk2 c2 c3 _ ht.symm)
  have CF := Lib.hid (fun W => l16Far_in t W (by omega) t1)
  have CO := Lib.hid cO
  have CK := Lib.hid cK
  generalize noK ms rs n n' ((Y : Int), (k : Int) + 1, d) = N at *
  have r1 : IntKind.i64.wrap (N + t) = N + t := IntWalk.i64_in _ (by omega)
  clear hin hbY hbY0 ht hv h1 h2 cO cK c1 c3
  go_enter Try.func11, Try.ntmps11
  go_wp2_with fail
  (try rw [hW1])
  clear hW1
  go_at_call 39
  refine (CO.out _ B1.out K1.out).mono ?_
  rintro e w2 ⟨rfl, hb2⟩
  have B2 := Lib.hid (below_call B1.out hb2)
  have K2 := Lib.hid (K1.out.call hb2)
  have D2 := Lib.hid (D1.out.call hb2)
  have R2 := Lib.hid (R1.out.call hb2)
  clear hb2 B1 K1 D1 R1
  obtain ⟨p0, p1, p2, pf⟩ := D2.out
  have z2 := D2.out.lt
  clear pf
  go_wp2_with fail
  go_at_call 40
  refine (CK.out _ B2.out K2.out).mono ?_
  rintro e w3 ⟨rfl, hb3⟩
  have B3 := Lib.hid (below_call B2.out hb3)
  have K3 := Lib.hid (K2.out.call hb3)
  have D3 := Lib.hid (D2.out.call hb3)
  have R3 := Lib.hid (R2.out.call hb3)
  clear hb3 B2 K2 D2 R2 p0 p1 p2 z2
  obtain ⟨p0, p1, p2, pf⟩ := D3.out
  have z3 := D3.out.lt
  clear pf
  go_wp2_with fail
  go_at_call 41
  refine (CF.out _).mono ?_
  rintro e w' ⟨rfl, rfl⟩
  go_wp2_with fail
  go_at_call 44
  refine (CY.out _ B3.out K3.out).mono ?_
  rintro e w4 ⟨rfl, hb4⟩
  have B4 := Lib.hid (below_call B3.out hb4)
  have K4 := Lib.hid (K3.out.call hb4)
  have R4 := Lib.hid (R3.out.call hb4)
  clear hb4 B3 K3 D3 R3 p0 p1 p2 z3
  go_wp2_with fail
  go_at_call 43
  refine (CT.out _ B4.out K4.out).mono ?_
  rintro e w5 ⟨rfl, hb5⟩
  have B5 := Lib.hid (below_call B4.out hb5)
  have R5 := Lib.hid (R4.out.call hb5)
  clear hb5 B4 K4 R4
  go_wp2_with fail
  go_at_call 42
  refine (l16Code_ok _ _ _ _).mono ?_
  rintro e w6 ⟨rfl, hb6⟩
  have B6 := Lib.hid (below_call B5.out hb6)
  have R6 := Lib.hid (R5.out.call hb6)
  clear hb6 B5 R5
  obtain ⟨p0, p1, p2, pf⟩ := R6.out
  have f0 := pf 0
  have f1 := pf 1
  have f2 := pf 2
  have z6 := R6.out.lt
  clear pf
  go_wp2
  refine bodyPost_ret (v := .tuple #[.agg #[.int .i64 (Y2 : Int), .int .i64 ((k2 : Int) + 1), .int .i64 d2], .int .i64 0]) ?_ rfl ⟨rfl, ((B6.out.setCell (by show w.heap.size ≤ w.heap.size + 1 + 1; omega) _).setCell (by show w.heap.size ≤ w.heap.size + 1 + 1; omega) _).setCell (by show w.heap.size ≤ w.heap.size + 1 + 1; omega) _⟩
  simp [results, Try.results11, go_sem, *]
end Go.Proofs.Ytmbdedkelckedaa
