/- The program's next fault and the period of a cam, the reference's days of a month. Conditions: the calendar is valid, the cam belongs to it, the year lies from 0 to 9999. -/
import Derived.Test.YtmbdedkelckedaaNextPlain
import Derived.Test.YtmbdedkelckedaaCore7
import Derived.Test.YtmbdedkelckedaaSame
import Derived.Test.YtmbdedkelckedaaDays
import Derived.BigQuiet
namespace Go.Proofs.Ytmbdedkelckedaa
open Go.RowKit
set_option linter.unusedVariables false
set_option linter.unusedSimpArgs false
def fV (x : Flt) : Value := .agg #[.int .i64 x.yr, .int .i64 x.mo, .int .i64 x.sh, .int .i64 x.ri]
theorem nxF_at {ms : List Mth} {rs : List Rul} {n n' : Nat} {zs : List Int} {l f y j : Nat} {x : Flt} {t : List Flt} (hj : j < f) (h : ∀ i, i < j → fYr ms rs n n' zs l (y + i) = []) (hx : fYr ms rs n n' zs l (y + j) = x :: t) : nxF ms rs n n' zs l f y = some x := by
  rcases nxF_cases (ms := ms) (rs := rs) (n := n) (n' := n') (zs := zs) (l := l) f y with ⟨h1, _⟩ | ⟨j', x', t', h1, h2, h3, h4⟩
  · rw [h1 j hj] at hx; cases hx
  · have e : j' = j := by
      rcases Nat.lt_trichotomy j' j with h5 | h5 | h5
      · rw [h j' h5] at h3; cases h3
      · exact h5
      · rw [h2 j h5] at hx; cases hx
    subst e
    rw [h3] at hx
    injection hx with e1 _
    rw [h4, e1]
theorem nxF_none {ms : List Mth} {rs : List Rul} {n n' : Nat} {zs : List Int} {l f y : Nat} (h : ∀ i, i < f → fYr ms rs n n' zs l (y + i) = []) : nxF ms rs n n' zs l f y = none := by
  rcases nxF_cases (ms := ms) (rs := rs) (n := n) (n' := n') (zs := zs) (l := l) f y with ⟨_, h1⟩ | ⟨j', x', t', h1, h2, h3, h4⟩
  · exact h1
  · rw [h j' h1] at h3; cases h3
theorem ownF_head {w : World} {base n c : Nat} {A : Option Addr} {x : Flt} {t : List Flt} (h : OwnF w base A n c (x :: t)) : ∃ g, A = some ⟨g, 0, none⟩ ∧ base ≤ g ∧ g < w.heap.size ∧ w.cell? ⟨g, 0, none⟩ = some (.int .i64 x.yr) ∧ w.cell? ⟨g, 1, none⟩ = some (.int .i64 x.mo) ∧ w.cell? ⟨g, 2, none⟩ = some (.int .i64 x.sh) ∧ w.cell? ⟨g, 3, none⟩ = some (.int .i64 x.ri) := by
  have hl := h.len
  simp at hl
  rcases h.form with ⟨_, h0, _⟩ | ⟨g, rfl, hb, hg, hc⟩
  · omega
  · have hx : ∀ j, j < n * 4 → w.cell? ⟨g, j, none⟩ = (flatF (x :: t))[j]? := fun j hj => World.ownsRow.cellAt h j hj
    exact ⟨g, rfl, hb, hg, hx 0 (by omega), hx 1 (by omega), hx 2 (by omega), hx 3 (by omega)⟩
set_option maxHeartbeats 4000000 in
theorem NextFault_any (nm : ByteArray) (A A' L : Option Addr) (n n' c c' l e B : Nat) (ms : List Mth) (rs : List Rul) (cw : Int) (zs : List Int) (F : Nat) (w : World) (h : Months w B A n ms) (h' : Rules w B A' n' rs) (hI : Ints w B L l zs) (hB : B ≤ w.heap.size) (hn : n ≤ c) (hc : c ≤ 9223372036854775807) (hn' : n' ≤ 1048576) (hl : l ≤ 1048576) (hle : l ≤ e) (he : e ≤ 9223372036854775807)
    (hask : askV nm n n' ms rs cw zs l = 0) (hF : F ≤ 9999) :
    Calls Try.prog 21 #[.agg #[.string nm, .slice A n c, .slice A' n' c', .int .i64 cw], .slice L l e, .int .i64 (F : Int)] w fun e w' => e = .returned (.tuple #[fV (outF (nxF ms rs n n' zs l (10000 - F) F)).1, .int .i64 (outF (nxF ms rs n n' zs l (10000 - F) F)).2]) ∧ Below w.heap.size w w' := by
  have H := Lib.hid (Tri.more h hB)
  have H' := Lib.hid (Tri.more h' hB)
  have HI := Lib.hid (hI.more hB)
  clear h h' hI
  have cA := fun (W : World) (hb : Below w.heap.size w W) => askedCam_any nm A A' L n n' c c' l e w.heap.size ms rs cw zs W (Tri.below H.out hb) (Tri.below H'.out hb) (Ints.below HI.out hb) hb.size hn hc hn' hl
  rw [hask] at cA
  have CA := Lib.hid cA
  clear cA
  obtain ⟨k1, k2, k3⟩ := ask_yes hask
  obtain ⟨z1, z2, z3⟩ := vCam_yes k2
  rw [HI.out.len] at z2 z3
  obtain ⟨-, -, -, -, ⟨n1, n2⟩, -, -⟩ := vCal_yes k1
  have CF := Lib.hid (fun (W : World) (hb : Below w.heap.size w W) (y : Nat) (hy : y ≤ 1000000000) => (show Calls Try.prog 52 #[.agg #[.string nm, .slice A n c, .slice A' n' c', .int .i64 cw], .slice L l e, .int .i64 (y : Int)] W (NewFlt W (fYr ms rs n n' zs l y)) from faultsOf_any nm A A' L n n' c c' l e w.heap.size ms rs cw zs y W (Tri.below H.out hb) (Tri.below H'.out hb) (Ints.below HI.out hb) hb.size n1 n2 hn' z2 z3 hle he k3 (vCal_ev k1) hy))
  have Y1 := Lib.hid (show inB (F : Int) 0 9999 = true from inB_mk (by omega) (by omega))
  obtain ⟨W0, hW0⟩ : ∃ W, (w.alloc (.cells #[.string nm, .slice A n c, .slice A' n' c', .int .i64 cw] 27)).alloc (.cells #[.int .i64 0, .int .i64 0, .int .i64 0, .int .i64 0] 51) = W := ⟨_, rfl⟩
  have K0 := Lib.hid (hW0 ▸ (cal_new w 27 nm A A' n n' c c' cw).call (alb' _ (.cells #[.int .i64 0, .int .i64 0, .int .i64 0, .int .i64 0] 51)))
  have R0 : Hid (FltAt W0 (w.heap.size + 1) 0 0 0 0) := Lib.hid (hW0 ▸ (by have := flt_new (w.alloc (.cells #[.string nm, .slice A n c, .slice A' n' c', .int .i64 cw] 27)) 51 0 0 0 0; simpa using this))
  have B0 : Hid (Below w.heap.size w W0) := Lib.hid (hW0 ▸ below_alloc (below_alloc (Below.refl _ _) _) _)
  clear hask k1 k2 k3 z1
  obtain ⟨zc, u0, u1, u2, u3⟩ := K0.out
  go_enter Try.func21, Try.ntmps21
  go_wp2_with fail
  (try rw [hW0])
  clear hW0
  go_at_call 51
  refine (CA.out _ B0.out).mono ?_
  rintro e1 w1 ⟨rfl, hb1⟩
  have K1 := Lib.hid (K0.out.call hb1)
  have R1 := Lib.hid (R0.out.call hb1)
  have B1 := Lib.hid (below_call B0.out hb1)
  clear hb1 zc u0 u1 u2 u3 K0 R0 B0
  go_wp2_with (first | (go_at_call 37; refine (isYear_val _ _ _ Y1.out).mono ?_; rintro e1 w' ⟨rfl, rfl⟩) | fail)
  go_loopw [9] (fun t wr => ∃ j : Nat, t = .int .i64 ((F + j : Nat) : Int) ∧ F + j ≤ 10000 ∧ Hid (∀ i, i < j → fYr ms rs n n' zs l (F + i) = []) ∧ Hid (CalAt wr w.heap.size nm A A' n n' c c' cw) ∧ Hid (FltAt wr (w.heap.size + 1) 0 0 0 0) ∧ Hid (Below w.heap.size w wr)) (fun t _ => 10000 - (intOf t).toNat)
  case atStart => exact ⟨0, rfl, by omega, Lib.hid (fun i hi => absurd hi (by omega)), K1, R1, B1⟩
  case round =>
    clear K1 R1 B1
    obtain ⟨j, rfl, hj, HN, K, R, B⟩ := hrel
    obtain ⟨zc, u0, u1, u2, u3⟩ := K.out
    by_cases hlt : F + j ≤ 9999
    · have i1 : ((F + j : Nat) : Int) ≤ 9999 := by omega
      have cf := fun (W : World) (hb : Below w.heap.size w W) => CF.out W hb (F + j) (by omega)
      obtain ⟨G, hG⟩ : ∃ G, fYr ms rs n n' zs l (F + j) = G := ⟨_, rfl⟩
      rw [hG] at cf
      have HG := Lib.hid hG
      have CF2 := Lib.hid cf
      clear cf hG
      go_wp2_with fail
      go_at_call 52
      refine (CF2.out _ B.out).mono ?_
      rintro e1 w3 ⟨X2, m2, c2, rfl, ho3, hb3⟩
      have K3 := Lib.hid (K.out.call hb3)
      have R3 := Lib.hid (R.out.call hb3)
      have B3 := Lib.hid (below_call B.out hb3)
      have hln := ho3.len
      have hbz := B.out.size
      have hz3 := hb3.size
      have HO := Lib.hid ho3
      have hrl := R.out.lt
      clear hb3 zc u0 u1 u2 u3 K R B ho3
      cases G with
      | nil =>
        simp at hln
        subst hln
        have i2 : ¬ ((0 : Int) < ((0 : Nat) : Int)) := by omega
        go_wp2
        go_roundw
        case rel => exact ⟨j + 1, by go_num, by omega, Lib.hid (fun i hi => by
          by_cases e : i = j
          · subst e; exact HG.out
          · exact HN.out i (by omega)), K3, R3, B3⟩
        case measure => simp [intOf]; omega
      | cons x t =>
        obtain ⟨g, rfl, hg1, hg2, q0, q1, q2, q3⟩ := ownF_head HO.out
        have HR := Lib.hid (show outF (nxF ms rs n n' zs l (10000 - F) F) = (x, 0) by rw [nxF_at (by omega) HN.out HG.out]; rfl)
        simp at hln
        have i2 : (0 : Int) < (m2 : Int) := by omega
        have i3 : 0 < m2 := by omega
        obtain ⟨p0, p1, p2, p3, pf⟩ := R3.out
        have f0 := pf 0
        have f1 := pf 1
        have f2 := pf 2
        have f3 := pf 3
        have zr := R3.out.lt
        clear pf hln
        have hne : g ≠ w.heap.size + 1 := by omega
        go_wp2
        refine bodyPost_ret (v := .tuple #[fV x, .int .i64 0]) ?_ rfl ⟨by rw [HR.out], (((B3.out.setCell (by show w.heap.size ≤ w.heap.size + 1; omega) _).setCell (by show w.heap.size ≤ w.heap.size + 1; omega) _).setCell (by show w.heap.size ≤ w.heap.size + 1; omega) _).setCell (by show w.heap.size ≤ w.heap.size + 1; omega) _⟩
        simp [results, Try.results21, go_sem, fV, *]
    · have i1 : ¬ (((F + j : Nat) : Int) ≤ 9999) := by omega
      have HR := Lib.hid (show outF (nxF ms rs n n' zs l (10000 - F) F) = (f0, 3) by rw [nxF_none (fun i hi => HN.out i (by omega))]; rfl)
      obtain ⟨p0, p1, p2, p3, pf⟩ := R.out
      have f0 := pf 0
      have f1 := pf 1
      have f2 := pf 2
      have f3 := pf 3
      have zr := R.out.lt
      clear pf
      go_wp2
      refine bodyPost_ret (v := .tuple #[.agg #[.int .i64 0, .int .i64 0, .int .i64 0, .int .i64 0], .int .i64 3]) ?_ rfl ⟨by rw [HR.out]; rfl, by first | exact B.out | exact (((B.out.setCell (by show w.heap.size ≤ w.heap.size + 1; omega) _).setCell (by show w.heap.size ≤ w.heap.size + 1; omega) _).setCell (by show w.heap.size ≤ w.heap.size + 1; omega) _).setCell (by show w.heap.size ≤ w.heap.size + 1; omega) _⟩
      simp [results, Try.results21, go_sem, *]
set_option maxHeartbeats 1000000 in
theorem specDaysInMonth_any (nm : ByteArray) (A A' : Option Addr) (n n' c c' B : Nat) (ms : List Mth) (rs : List Rul) (cw y m : Int) (w : World) (h : Months w B A n ms) (h' : Rules w B A' n' rs) (hB : B ≤ w.heap.size) (hv : vCal nm n n' ms rs cw = true) (hy : inB y 0 9999 = true) (hm : inB m 1 (n : Int) = true) :
    Calls Try.prog 23 #[.agg #[.string nm, .slice A n c, .slice A' n' c', .int .i64 cw], .int .i64 y, .int .i64 m] w fun e w' => e = .returned (.tuple #[.int .i64 (dayK ms rs n' y m), .int .i64 0]) ∧ Below w.heap.size w w' := by
  have H := Lib.hid (Tri.more h hB)
  have H' := Lib.hid (Tri.more h' hB)
  clear h h'
  obtain ⟨-, -, hn6, -, ⟨n1, n2⟩, -, -⟩ := vCal_yes hv
  have y2 := inB_yes hy
  have m2 := inB_yes hm
  have K0 := Lib.hid (cal_new w 27 nm A A' n n' c c' cw)
  have B0 := Lib.hid (alb' w (.cells #[.string nm, .slice A n c, .slice A' n' c', .int .i64 cw] 27))
  have cO := fun (W : World) (hb : Below w.heap.size w W) (hK : CalAt W w.heap.size nm A A' n n' c c' cw) => l15Ok_any w.heap.size nm A A' n n' c c' w.heap.size ms rs cw W hK (Tri.below H.out hb) (Tri.below H'.out hb) hb.size (by omega) (by omega) (fun j hj => by have := (vCal_evs hv j hj).1; omega)
  rw [hv] at cO
  have CO := Lib.hid cO
  have iw : IntKind.i64.wrap (m - 1) = m - 1 := IntWalk.i64_in _ (by omega)
  have CD := Lib.hid (fun (W : World) (hb : Below w.heap.size w W) (hK : CalAt W w.heap.size nm A A' n n' c c' cw) => l15Days_any w.heap.size A A' n n' c c' w.heap.size ms rs y (m - 1) m W hK.lt hK.c1 hK.c2 (Tri.below H.out hb) (Tri.below H'.out hb) hb.size (by omega) (by omega) (vCal_ev hv) (by omega) (by omega) rfl m2.1 m2.2)
  have Y1 := Lib.hid hy
  have M1 := Lib.hid hm
  clear cO hv hy hm
  go_enter Try.func23, Try.ntmps23
  go_wp2_with fail
  go_at_call 39
  refine (CO.out _ B0.out K0.out).mono ?_
  rintro e w1 ⟨rfl, hb1⟩
  have K1 := Lib.hid (K0.out.call hb1)
  have B1 := Lib.hid (below_call B0.out hb1)
  clear hb1 K0 B0
  obtain ⟨zc, u0, u1, u2, u3⟩ := K1.out
  go_wp2_with (first | (go_at_call 53; refine (l15Year_val _ _ _ Y1.out).mono ?_; rintro e1 w' ⟨rfl, rfl⟩) | (go_at_call 54; refine (l00In_val _ _ _ _ _ M1.out).mono ?_; rintro e1 w' ⟨rfl, rfl⟩) | fail)
  (try rw [iw])
  go_at_call 55
  refine (CD.out _ B1.out K1.out).mono ?_
  rintro e w2 ⟨rfl, q, rfl⟩
  have B2 := Lib.hid (below_drewN B1.out q)
  clear zc u0 u1 u2 u3
  go_wp2
  go_ret2
  exact ⟨rfl, B2.out⟩
end Go.Proofs.Ytmbdedkelckedaa
