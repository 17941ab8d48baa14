/- The draw of a calendar, a day of it and a work that is set to it. No conditions but that the bytes lie apart from the source. -/
import Derived.Test.YtmbdedkelckedaaDrawSt2
import Derived.Deep.Cut
namespace Go.Proofs.Ytmbdedkelckedaa
open Go.RowKit
set_option linter.unusedVariables false
set_option linter.unusedSimpArgs false
set_option maxRecDepth 8000 in
set_option maxHeartbeats 2000000 in
theorem l18Start_any (A : Option Addr) (n c B g : Nat) (M : Int) (w : World) (h : Src w g A n c M) (hb : Byts w B A n) (hBg : B ≤ g) (hBw : B ≤ w.heap.size) (hn : n ≤ 4096) (hK : M ≤ 600000000) :
    Calls Try.prog 27 #[.pointer (some ⟨g, 0, none⟩)] w fun e w' => GoodSt (w.heap.size + 3) w' e ∧ Src w' g A n c (M + 172) ∧ w.grownBy w' (some g) := by
  have l0 := h.lt
  have HB0 := Lib.hid hb
  have HBY := Lib.hid (fun (W : World) (hg : w.grownBy W (some g)) => HB0.out.only hBw hg hBg)
  obtain ⟨W0, hW0⟩ : ∃ W, ((w.alloc (.cells #[.string ⟨#[]⟩, .slice none 0 0, .slice none 0 0, .int .i64 0] 27)).alloc (.cells #[.int .i64 0, .int .i64 0, .int .i64 0] 29)).alloc (.cells #[.slice none 0 0, .int .i64 0, .int .i64 0, .int .i64 0, .int .i64 0, .int .i64 0, .int .i64 0] 32) = W := ⟨_, rfl⟩
  have R0 := Lib.hid (hW0 ▸ rb_new w 27 29 32)
  have S0 := Lib.hid (hW0 ▸ ((h.alloc (.cells #[.string ⟨#[]⟩, .slice none 0 0, .slice none 0 0, .int .i64 0] 27)).alloc (.cells #[.int .i64 0, .int .i64 0, .int .i64 0] 29)).alloc (.cells #[.slice none 0 0, .int .i64 0, .int .i64 0, .int .i64 0, .int .i64 0, .int .i64 0, .int .i64 0] 32))
  have G0 : Hid (w.grownBy W0 (some g)) := Lib.hid (hW0 ▸ only_alloc (only_alloc (only_alloc (World.grownBy.refl w (some g)) _) _) _)
  have hz0 : W0.heap.size = w.heap.size + 3 := by rw [← hW0]; simp
  have HZ0 := Lib.hid hz0
  clear h hb hz0
  go_enter Try.func27, Try.ntmps27
  go_wp2_with fail
  (try rw [hW0])
  clear hW0
  go_at_call 49
  refine (l15Draw_any A n c B g M _ S0.out (HBY.out _ G0.out) hBg (Nat.le_trans hBw G0.out.size) hn (by omega)).mono ?_
  rintro e w1 ⟨v, ⟨nm, A1, A2, n1, n2, c1, c2, ms, rs, we, rfl, t1, t2, hc1, hc2, hv⟩, rfl, hs1, hq1⟩
  have hz := HZ0.out
  have zq1 := hq1.size
  have hal := alb0 w1 (.cells #[.string nm, .slice A1 n1 c1, .slice A2 n2 c2, .int .i64 we] 27)
  have K2 : Hid (SK w (w1.alloc (.cells #[.string nm, .slice A1 n1 c1, .slice A2 n2 c2, .int .i64 we] 27)) g A n c (M + 100) w1.heap.size W0.heap.size w1.heap.size nm A1 A2 n1 n2 c1 c2 we ms rs) := Lib.hid
    ⟨hs1.call hal, only_below (G0.out.trans hq1) hal, (R0.out.only hq1 (.inl l0)).call hal, ⟨cal_new w1 27 nm A1 A2 n1 n2 c1 c2 we, t1.call hal (Nat.le_refl _), t2.call hal (Nat.le_refl _), by simp⟩, ⟨.inl l0, by omega⟩, by omega, zq1, Nat.le_refl _⟩
  clear hs1 hq1 hal t1 t2 S0 G0 R0
  obtain ⟨-, -, hn6, -, ⟨m1, m2⟩, we1, we2⟩ := vCal_yes hv
  have HV := Lib.hid hv
  have HEV := Lib.hid (fun j (hj : j < n2) => (show -9223372036854775808 ≤ (rs.getD j r0).ev by have := (vCal_evs hv j hj).1; omega))
  clear hv
  go_upto_region 2 with fail
  obtain ⟨w2, hw2⟩ : ∃ W, w1.alloc (.cells #[.string nm, .slice A1 n1 c1, .slice A2 n2 c2, .int .i64 we] 27) = W := ⟨_, rfl⟩
  obtain ⟨b, hbe⟩ : ∃ q, w1.heap.size = q := ⟨_, rfl⟩
  obtain ⟨lo, hlo⟩ : ∃ q, W0.heap.size = q := ⟨_, rfl⟩
  obtain ⟨hi, hhi⟩ : ∃ q, q = b := ⟨_, rfl⟩
  rw [hw2, hbe, hlo] at K2
  rw [hw2, hbe]
  have K2 : Hid (SK w w2 g A n c (M + 100) b lo hi nm A1 A2 n1 n2 c1 c2 we ms rs) := Lib.hid (hhi ▸ K2.out)
  clear hw2 hbe hlo hhi zq1 hz HZ0
  have ga := K2.out.gl
  have gb := K2.out.ql
  have gc := K2.out.lb
  go_wp2_with fail
  go_at_call 50
  refine (l17Draw_any A n c B g (M + 100) b lo hi nm A1 A2 n1 n2 c1 c2 ms rs we _ K2.out.src (HBY.out _ K2.out.gb) hBg (Nat.le_trans hBw K2.out.gb.size) hn (by omega) K2.out.cal (by omega) (by omega) HV.out).mono ?_
  rintro e w3 ⟨L, l, cc, zs, rfl, ho, hvc, hmd, hl1', hl2', hs3, hq3⟩
  have hbl := K2.out.cal.lt
  have K3 := Lib.hid (K2.out.draw hs3 hq3)
  have I3 := Lib.hid (IntsIn.low (lo' := b + 1) (IntsIn.of ho) (by omega))
  clear hs3 hq3 ho K2 ga gb gc
  have ga := K3.out.gl
  have gb := K3.out.ql
  have gc := K3.out.lb
  go_wp2_with fail
  go_at_call 62
  refine (one_any A n c B g (M + 100 + 20) 2 _ K3.out.src (HBY.out _ K3.out.gb) hBg hn (by omega) (by omega)).mono ?_
  rintro e w4 ⟨v, ⟨bb, rfl⟩, rfl, hs4, hq4⟩
  have K4 := Lib.hid ((K3.out.draw hs4 hq4).more (K' := M + 150) (by omega))
  have I4 := Lib.hid ((I3.out.only hq4 (by omega) (Nat.le_refl _)).more hq4.size)
  clear hs4 hq4 K3 I3 hbl ga gb gc
  cases bb
  · have K5 := K4
    have I5 := I4
    clear K4 I4
    obtain ⟨-, hl1, hl2⟩ := vCam_yes hvc
    rw [I5.out.1.len] at hl1 hl2
    have hl6 : l ≤ 1048576 := by omega
    have HAS := Lib.hid (show askV nm n1 n2 ms rs we zs l = 0 by rw [ask_good HV.out hvc, if_pos hmd])
    obtain ⟨w5, hw5⟩ : ∃ W, w4 = W := ⟨_, rfl⟩
    rw [hw5] at K5 I5 ⊢
    clear hw5
    obtain ⟨zc5, u0, u1, u2, u3⟩ := K5.out.cal.at_
    clear zc5 u0 u1 u2 u3
    go_wp2_with fail
    go_at_call 64
    have ga := K5.out.gl
    have gb := K5.out.ql
    have gc := K5.out.lb
    refine (l16Draw_any A n c B g (M + 150) b lo hi nm A1 A2 n1 n2 c1 c2 ms rs we _ K5.out.src (HBY.out _ K5.out.gb) hBg (Nat.le_trans hBw K5.out.gb.size) hn (by omega) K5.out.cal (by omega) (by omega) HV.out).mono ?_
    rintro e w6 ⟨v, ⟨y, m, d, rfl, hdo⟩, rfl, hs6, hq6⟩
    have hdd := dOk_yes hdo
    have K6 := Lib.hid ((K5.out.draw hs6 hq6).more (K' := M + 170) (by omega))
    have I6 := Lib.hid ((I5.out.only hq6 (by omega) (Nat.le_refl _)).more hq6.size)
    have hbl := K6.out.cal.lt
    clear hs6 hq6 K5 I5
    have hal := alb0 w6 (.cells #[.int .i64 y, .int .i64 m, .int .i64 d] 29)
    have K7 := Lib.hid (K6.out.call hal)
    have I7 := Lib.hid ((I6.out.call hal (Nat.le_refl _)).more hal.size)
    have D7 := Lib.hid (dat_new w6 29 y m d)
    clear hal K6 I6
    go_upto_region 6 with fail
    obtain ⟨w7, hw7⟩ : ∃ W, w6.alloc (.cells #[.int .i64 y, .int .i64 m, .int .i64 d] 29) = W := ⟨_, rfl⟩
    obtain ⟨bd, hbd⟩ : ∃ q, w6.heap.size = q := ⟨_, rfl⟩
    rw [hw7] at K7 I7 D7 ⊢
    rw [hbd] at D7 hbl ⊢
    clear hw7 hbd
    have HNE := Lib.hid hbl
    go_cut [8, 9] (fun p q wx => q = .int .i64 0 ∧ PX w wx g A n c (M + 172) b lo hi nm A1 A2 n1 n2 c1 c2 we ms rs bd y m d p)
    case first =>
      have K7d : Hid (SK w w7.drew g A n c (M + 170) b lo hi nm A1 A2 n1 n2 c1 c2 we ms rs) := Lib.hid (K7.out.call (Below.drew (Below.refl _ _)))
      have D7d : Hid (DatAt w7.drew bd y m d) := Lib.hid D7.out
      have I7d : Hid (IntsIn w7.drew (b + 1) w7.drew.heap.size L l zs) := Lib.hid I7.out
      obtain ⟨zc7, u0, u1, u2, u3⟩ := K7.out.cal.at_
      obtain ⟨t0, t1, t2, -⟩ := D7.out
      have zd7 := D7.out.lt
      refine wp_region_held_drew (S := (fun w' => w'.cell? ⟨b, 0, none⟩ = some (.string nm) ∧ w'.cell? ⟨b, 1, none⟩ = some (.slice A1 n1 c1) ∧ w'.cell? ⟨b, 2, none⟩ = some (.slice A2 n2 c2) ∧ w'.cell? ⟨b, 3, none⟩ = some (.int .i64 we) ∧ w'.cell? ⟨bd, 0, none⟩ = some (.int .i64 y) ∧ w'.cell? ⟨bd, 1, none⟩ = some (.int .i64 m) ∧ w'.cell? ⟨bd, 2, none⟩ = some (.int .i64 d) ∧ b < w'.heap.size ∧ bd < w'.heap.size)) (by kernel_rfl) ?_ (fun hHeld => ?_)
      · (try dsimp only); (first | ((try go_split_ands); (try dsimp only); refine ⟨?_, ?_, ?_, ?_, ?_, ?_, ?_, ?_, ?_⟩ <;> first | (exact cell_call (by assumption) (by assumption) (by assumption)) | (exact lt_call (by assumption) (by assumption)) | (exact below_call' (by assumption) (by assumption)) | (exact Below.drew (by assumption)) | (with_reducible assumption) | (simp; done) | (simp [*]; done) | ((repeat (first | with_reducible exact Below.refl _ _ | with_reducible refine below_alloc ?_ _ | with_reducible refine below_drewN ?_ _ | with_reducible refine Below.drew ?_ | ((with_reducible refine below_set ?_ ?_ _); rotate_left; (focus (first | (simp; done) | (simp; omega) | omega))) | with_reducible refine below_call ?_ (by assumption))); done) | omega | (simp; omega) | (simp [go_sem]; done) | (simp [go_sem, *]; done)))
      (refine wpAnyH_take (i := 0) (v := ?_) rfl (by kernel_rfl) (by kernel_rfl) (by kernel_rfl) (fun _ _ _ h => h) (Or.inl ⟨by kernel_rfl, ?_⟩) (by assumption) ?_; rotate_left; (focus (intro w hSw; (try dsimp only at hSw); go_simp; (try with_reducible rfl))); (try simp only [Act.put, List.getElem_toArray, List.getElem_cons_zero, List.getElem_cons_succ, List.setIfInBounds_toArray, List.set_cons_zero, List.set_cons_succ]))
      (refine wpAnyH_take (i := 1) (v := ?_) rfl (by kernel_rfl) (by kernel_rfl) (by kernel_rfl) (fun _ _ _ h => h) (Or.inl ⟨by kernel_rfl, ?_⟩) (by assumption) ?_; rotate_left; (focus (intro w hSw; (try dsimp only at hSw); go_simp; (try with_reducible rfl))); (try simp only [Act.put, List.getElem_toArray, List.getElem_cons_zero, List.getElem_cons_succ, List.setIfInBounds_toArray, List.set_cons_zero, List.set_cons_succ]))
      (refine wpAnyH_take (i := 2) (v := ?_) rfl (by kernel_rfl) (by kernel_rfl) (by kernel_rfl) (fun _ _ _ h => h) (Or.inl ⟨by kernel_rfl, ?_⟩) (by assumption) ?_; rotate_left; (focus (intro w hSw; (try dsimp only at hSw); go_simp; (try with_reducible rfl))); (try simp only [Act.put, List.getElem_toArray, List.getElem_cons_zero, List.getElem_cons_succ, List.setIfInBounds_toArray, List.set_cons_zero, List.set_cons_succ]))
      (refine wpAnyH_take (i := 3) (v := ?_) rfl (by kernel_rfl) (by kernel_rfl) (by kernel_rfl) (fun _ _ _ h => h) (Or.inl ⟨by kernel_rfl, ?_⟩) (by assumption) ?_; rotate_left; (focus (intro w hSw; (try dsimp only at hSw); go_simp; (try with_reducible rfl))); (try simp only [Act.put, List.getElem_toArray, List.getElem_cons_zero, List.getElem_cons_succ, List.setIfInBounds_toArray, List.set_cons_zero, List.set_cons_succ]))
      (refine wpAnyH_take (i := 4) (v := ?_) rfl (by kernel_rfl) (by kernel_rfl) (by kernel_rfl) (fun _ _ _ h => h) (Or.inl ⟨by kernel_rfl, ?_⟩) (by assumption) ?_; rotate_left; (focus (intro w hSw; (try dsimp only at hSw); go_simp; (try with_reducible rfl))); (try simp only [Act.put, List.getElem_toArray, List.getElem_cons_zero, List.getElem_cons_succ, List.setIfInBounds_toArray, List.set_cons_zero, List.set_cons_succ]))
      (refine wpAnyH_take (i := 5) (v := ?_) rfl (by kernel_rfl) (by kernel_rfl) (by kernel_rfl) (fun _ _ _ h => h) (Or.inl ⟨by kernel_rfl, ?_⟩) (by assumption) ?_; rotate_left; (focus (intro w hSw; (try dsimp only at hSw); go_simp; (try with_reducible rfl))); (try simp only [Act.put, List.getElem_toArray, List.getElem_cons_zero, List.getElem_cons_succ, List.setIfInBounds_toArray, List.set_cons_zero, List.set_cons_succ]))
      clear K7 D7 I7 u0 u1 u2 u3 t0 t1 t2 zc7 zd7
      generalize w7.drew = w8 at *
      have K8 := K7d
      have D8 := D7d
      have I8 := I7d
      clear K7d D7d I7d
      obtain ⟨zc8, u0, u1, u2, u3⟩ := K8.out.cal.at_
      obtain ⟨t0, t1, t2, -⟩ := D8.out
      have zd8 := D8.out.lt
      refine wpAnyH_ready (rs := [6, 12]) (by kernel_rfl) (by simp) ?_
      refine AllReadyH.cons rfl (fun K hK => ?_) (AllReadyH.cons rfl (fun K hK => ?_) (AllReadyH.nil))
      · skip
        (try simp only [List.getElem_toArray, List.getElem_cons_zero, List.getElem_cons_succ])
        (try rw [if_pos (by kernel_rfl)])
        go_simp
        go_at_call 66
        refine (pick_any A n c B g (M + 170) we _ K8.out.src (HBY.out _ K8.out.gb) hBg hn (by omega) (by omega)).mono ?_
        rintro e1 w9 ⟨v, ⟨x, rfl, x0, x1⟩, rfl, hs, hq⟩
        have hx : 1 ≤ 1 + x ∧ 1 + x ≤ we := by split at x1 <;> omega
        have hsz := hq.size
        have gg := K8.out.gl
        have gb := K8.out.ql
        have gc := K8.out.lb
        have K9 := Lib.hid (K8.out.draw hs hq)
        have D9 := Lib.hid (D8.out.grown hq (by omega))
        have I9 := Lib.hid ((I8.out.only hq (by omega) (Nat.le_refl _)).more hsz)
        clear u0 u1 u2 u3 t0 t1 t2 zc8 zd8
        clear hs hq x1 hsz
        obtain ⟨zc9, u0, u1, u2, u3⟩ := K9.out.cal.at_
        obtain ⟨t0, t1, t2, -⟩ := D9.out
        have zd9 := D9.out.lt
        (try dsimp only)
        refine hK.out _ _ ?_ (fun hHeld => ?_)
        · exact ⟨u0, u1, u2, u3, t0, t1, t2, zc9, zd9⟩
        clear hK K
        (try simp only [Act.put, List.getElem_toArray, List.getElem_cons_zero, List.getElem_cons_succ, List.setIfInBounds_toArray, List.set_cons_zero, List.set_cons_succ])
        (refine wpAnyH_take (i := 7) (v := ?_) rfl (by kernel_rfl) (by kernel_rfl) (by kernel_rfl) (fun _ _ _ h => h) (Or.inl ⟨by kernel_rfl, ?_⟩) (by assumption) ?_; rotate_left; (focus (intro w hSw; (try dsimp only at hSw); go_simp; (try with_reducible rfl))); (try simp only [Act.put, List.getElem_toArray, List.getElem_cons_zero, List.getElem_cons_succ, List.setIfInBounds_toArray, List.set_cons_zero, List.set_cons_succ]))
        refine wpAnyH_ready (rs := [8, 12]) (by kernel_rfl) (by simp) ?_
        refine AllReadyH.cons rfl (fun K hK => ?_) (AllReadyH.cons rfl (fun K hK => ?_) (AllReadyH.nil))
        · skip
          (try simp only [List.getElem_toArray, List.getElem_cons_zero, List.getElem_cons_succ])
          (try rw [if_pos (by kernel_rfl)])
          go_simp
          have hwd : inB (1 + x) 1 we = true := inB_mk hx.1 hx.2
          have HP := Lib.hid (set_perp (wk := 1 + x) HV.out hvc I9.out.1.len hmd hdo hwd)
          have cS := specSetPerpetual_any nm A1 A2 L n1 n2 c1 c2 l cc w9.heap.size ms rs we zs y m d (1 + x) w9 K9.out.cal.months K9.out.cal.rules I9.out.1 (Nat.le_refl _) (by omega) (by omega) hl6 HEV.out
          rw [rSet_ok HAS.out (by rw [hdo, hwd]; rfl)] at cS
          have hix := (setIx_bd (l := l) (n := n1) (y := y) (m := m) hmd hl1 hl2 m1 hdd.1.1 hdd.2.1.1 hdd.2.1.2)
          obtain ⟨K0, hK0⟩ : ∃ K0 : Nat, setIx l n1 y m = (K0 : Int) := Int.eq_ofNat_of_zero_le (by unfold setIx; omega)
          rw [hK0] at cS HP
          generalize teK ms (maxK zs (l - 1)) n1 = te at *
          have CS := Lib.hid cS
          clear cS hK0 hix hwd
          have hw1 : IntKind.i64.wrap (1 + x) = 1 + x := IntWalk.i64_in _ (by omega)
          rw [hw1]
          clear hw1
          go_at_call 65
          refine CS.out.mono ?_
          rintro e1 w10 ⟨L2, cc2, rfl, ho2, hb2⟩
          have cp2 := own_caps ho2
          have K10 := Lib.hid (K9.out.call hb2)
          have D10 := Lib.hid (D9.out.call hb2)
          have J10 := Lib.hid (IntsIn.low (lo' := b + 1) (IntsIn.of ho2) (by omega))
          clear u0 u1 u2 u3 t0 t1 t2 zc9 zd9
          clear hb2 ho2 CS
          obtain ⟨zc10, u0, u1, u2, u3⟩ := K10.out.cal.at_
          obtain ⟨t0, t1, t2, -⟩ := D10.out
          have zd10 := D10.out.lt
          (try dsimp only)
          refine hK.out _ _ ?_ (fun hHeld => ?_)
          · exact ⟨u0, u1, u2, u3, t0, t1, t2, zc10, zd10⟩
          clear hK K
          (try simp only [Act.put, List.getElem_toArray, List.getElem_cons_zero, List.getElem_cons_succ, List.setIfInBounds_toArray, List.set_cons_zero, List.set_cons_succ])
          (refine wpAnyH_take (i := 9) (v := ?_) rfl (by kernel_rfl) (by kernel_rfl) (by kernel_rfl) (fun _ _ _ h => h) (Or.inl ⟨by kernel_rfl, ?_⟩) (by assumption) ?_; rotate_left; (focus (intro w hSw; (try dsimp only at hSw); go_simp; (try with_reducible rfl))); (try simp only [Act.put, List.getElem_toArray, List.getElem_cons_zero, List.getElem_cons_succ, List.setIfInBounds_toArray, List.set_cons_zero, List.set_cons_succ]))
          (refine wpAnyH_take (i := 10) (v := ?_) rfl (by kernel_rfl) (by kernel_rfl) (by kernel_rfl) (fun _ _ _ h => h) (Or.inl ⟨by kernel_rfl, ?_⟩) (by assumption) ?_; rotate_left; (focus (intro w hSw; (try dsimp only at hSw); go_simp; (try with_reducible rfl))); (try simp only [Act.put, List.getElem_toArray, List.getElem_cons_zero, List.getElem_cons_succ, List.setIfInBounds_toArray, List.set_cons_zero, List.set_cons_succ]))
          (refine wpAnyH_take (i := 11) (v := ?_) rfl (by kernel_rfl) (by kernel_rfl) (by kernel_rfl) (fun _ _ _ h => h) (Or.inl ⟨by kernel_rfl, ?_⟩) (by assumption) ?_; rotate_left; (focus (intro w hSw; (try dsimp only at hSw); go_simp; (try with_reducible rfl))); (try simp only [Act.put, List.getElem_toArray, List.getElem_cons_zero, List.getElem_cons_succ, List.setIfInBounds_toArray, List.set_cons_zero, List.set_cons_succ]))
          refine wpAnyH_ready (rs := [12]) (by kernel_rfl) (by simp) ?_
          refine AllReadyH.cons rfl (fun K hK => ?_) (AllReadyH.nil)
          (try simp only [List.getElem_toArray, List.getElem_cons_zero, List.getElem_cons_succ])
          (try rw [if_pos (by kernel_rfl)])
          go_simp
          (try dsimp only)
          refine hK.out _ _ ?_ (fun hHeld => ?_)
          · refine ⟨?_, ?_, ?_, ?_, ?_, ?_, ?_, ?_, ?_⟩ <;> first | exact cell_call (alb' _ _) (by assumption) (by assumption) | exact lt_call (alb' _ _) (by assumption)
          clear hK K
          (try simp only [Act.put, List.getElem_toArray, List.getElem_cons_zero, List.getElem_cons_succ, List.setIfInBounds_toArray, List.set_cons_zero, List.set_cons_succ])
          refine wpAnyH_ready (rs := [13]) (by kernel_rfl) (by simp) ?_
          refine AllReadyH.cons rfl (fun K hK => ?_) (AllReadyH.nil)
          (try simp only [List.getElem_toArray, List.getElem_cons_zero, List.getElem_cons_succ])
          (try rw [if_pos (by kernel_rfl)])
          go_simp
          (try dsimp only)
          refine hK.out _ _ ?_ (fun hHeld => ?_)
          · refine ⟨?_, ?_, ?_, ?_, ?_, ?_, ?_, ?_, ?_⟩ <;> first | exact cell_call (alb' _ _) (by assumption) (by assumption) | exact lt_call (alb' _ _) (by assumption)
          clear hK K
          (try simp only [Act.put, List.getElem_toArray, List.getElem_cons_zero, List.getElem_cons_succ, List.setIfInBounds_toArray, List.set_cons_zero, List.set_cons_succ])
          (refine wpAnyH_take (i := 14) (v := ?_) rfl (by kernel_rfl) (by kernel_rfl) (by kernel_rfl) (fun _ _ _ h => h) (Or.inl ⟨by kernel_rfl, ?_⟩) (by assumption) ?_; rotate_left; (focus (intro w hSw; (try dsimp only at hSw); go_simp; (try with_reducible rfl))); (try simp only [Act.put, List.getElem_toArray, List.getElem_cons_zero, List.getElem_cons_succ, List.setIfInBounds_toArray, List.set_cons_zero, List.set_cons_succ]))
          refine wpAnyH_done (by kernel_rfl) ?_ _
          go_wp2_with fail
          go_meet
          exact ⟨rfl, _, L2, l, cc2, zs, te, K0, d, 1 + x, rfl, (K10.out.call (alb' _ _)).more (by omega), D10.out.call (alb' _ _), work_new _ _ _ _ _ _ _ _ _, (J10.out.call (alb' _ _) (Nat.le_refl _)).more (by simp), zd10, cp2.1, cp2.2, HP.out⟩
        · skip
          (try simp only [List.getElem_toArray, List.getElem_cons_zero, List.getElem_cons_succ])
          (try rw [if_pos (by kernel_rfl)])
          go_simp
          have hal := alb0 w9 (.cells #[.slice none 0 0, .int .i64 0, .int .i64 0, .int .i64 0, .int .i64 0, .int .i64 0, .int .i64 0] 32)
          have hsz : w9.heap.size ≤ (w9.alloc (.cells #[.slice none 0 0, .int .i64 0, .int .i64 0, .int .i64 0, .int .i64 0, .int .i64 0, .int .i64 0] 32)).heap.size := hal.size
          have K10 := Lib.hid (K9.out.call hal)
          have D10 := Lib.hid (D9.out.call hal)
          have I10 := Lib.hid ((I9.out.call hal (Nat.le_refl _)).more hsz)
          have P10 : Hid (Work (w9.alloc (.cells #[.slice none 0 0, .int .i64 0, .int .i64 0, .int .i64 0, .int .i64 0, .int .i64 0, .int .i64 0] 32)) w9.heap.size (.slice none 0 0) 0 0 0 0 0 0) := Lib.hid (work_new _ _ _ _ _ _ _ _ _)
          obtain ⟨w10, hw10⟩ : ∃ W, w9.alloc (.cells #[.slice none 0 0, .int .i64 0, .int .i64 0, .int .i64 0, .int .i64 0, .int .i64 0, .int .i64 0] 32) = W := ⟨_, rfl⟩
          obtain ⟨bp, hbp⟩ : ∃ q, w9.heap.size = q := ⟨_, rfl⟩
          have hdp : bd < bp := by have := D9.out.lt; omega
          have hbb : b < bp := by have := K9.out.cal.lt; omega
          rw [hw10] at K10 D10 I10 P10
          rw [hbp] at P10
          clear u0 u1 u2 u3 t0 t1 t2 zc9 zd9
          obtain ⟨zc10, u0, u1, u2, u3⟩ := K10.out.cal.at_
          obtain ⟨t0, t1, t2, -⟩ := D10.out
          have zd10 := D10.out.lt
          (try dsimp only)
          refine hK.out _ _ (by rw [hw10]; exact ⟨u0, u1, u2, u3, t0, t1, t2, zc10, zd10⟩) (fun hHeld => ?_)
          clear hK K hal hsz
          (try simp only [Act.put, List.getElem_toArray, List.getElem_cons_zero, List.getElem_cons_succ, List.setIfInBounds_toArray, List.set_cons_zero, List.set_cons_succ])
          rw [hw10]
          (try rw [hbp])
          clear hw10 hbp
          refine wpAnyH_ready (rs := [8]) (by kernel_rfl) (by simp) ?_
          refine AllReadyH.cons rfl (fun K hK => ?_) (AllReadyH.nil)
          (try simp only [List.getElem_toArray, List.getElem_cons_zero, List.getElem_cons_succ])
          (try rw [if_pos (by kernel_rfl)])
          go_simp
          have hwd : inB (1 + x) 1 we = true := inB_mk hx.1 hx.2
          have HP := Lib.hid (set_perp (wk := 1 + x) HV.out hvc I10.out.1.len hmd hdo hwd)
          have cS := specSetPerpetual_any nm A1 A2 L n1 n2 c1 c2 l cc w10.heap.size ms rs we zs y m d (1 + x) w10 K10.out.cal.months K10.out.cal.rules I10.out.1 (Nat.le_refl _) (by omega) (by omega) hl6 HEV.out
          rw [rSet_ok HAS.out (by rw [hdo, hwd]; rfl)] at cS
          have hix := (setIx_bd (l := l) (n := n1) (y := y) (m := m) hmd hl1 hl2 m1 hdd.1.1 hdd.2.1.1 hdd.2.1.2)
          obtain ⟨K0, hK0⟩ : ∃ K0 : Nat, setIx l n1 y m = (K0 : Int) := Int.eq_ofNat_of_zero_le (by unfold setIx; omega)
          rw [hK0] at cS HP
          generalize teK ms (maxK zs (l - 1)) n1 = te at *
          have CS := Lib.hid cS
          clear cS hK0 hix hwd
          have hw1 : IntKind.i64.wrap (1 + x) = 1 + x := IntWalk.i64_in _ (by omega)
          rw [hw1]
          clear hw1
          go_at_call 65
          refine CS.out.mono ?_
          rintro e1 w11 ⟨L2, cc2, rfl, ho2, hb2⟩
          have cp2 := own_caps ho2
          have K11 := Lib.hid (K10.out.call hb2)
          have D11 := Lib.hid (D10.out.call hb2)
          have P11 := Lib.hid (P10.out.call hb2)
          have zs11 : bp < w10.heap.size := P10.out.lt
          have J11 := Lib.hid (IntsIn.low (lo' := bp + 1) (IntsIn.of ho2) (by omega))
          clear u0 u1 u2 u3 t0 t1 t2 zc10 zd10
          clear hb2 ho2 CS
          obtain ⟨zc11, u0, u1, u2, u3⟩ := K11.out.cal.at_
          obtain ⟨t0, t1, t2, -⟩ := D11.out
          have zd11 := D11.out.lt
          (try dsimp only)
          refine hK.out _ _ ?_ (fun hHeld => ?_)
          · exact ⟨u0, u1, u2, u3, t0, t1, t2, zc11, zd11⟩
          clear hK K
          (try simp only [Act.put, List.getElem_toArray, List.getElem_cons_zero, List.getElem_cons_succ, List.setIfInBounds_toArray, List.set_cons_zero, List.set_cons_succ])
          (refine wpAnyH_take (i := 9) (v := ?_) rfl (by kernel_rfl) (by kernel_rfl) (by kernel_rfl) (fun _ _ _ h => h) (Or.inl ⟨by kernel_rfl, ?_⟩) (by assumption) ?_; rotate_left; (focus (intro w hSw; (try dsimp only at hSw); go_simp; (try with_reducible rfl))); (try simp only [Act.put, List.getElem_toArray, List.getElem_cons_zero, List.getElem_cons_succ, List.setIfInBounds_toArray, List.set_cons_zero, List.set_cons_succ]))
          (refine wpAnyH_take (i := 10) (v := ?_) rfl (by kernel_rfl) (by kernel_rfl) (by kernel_rfl) (fun _ _ _ h => h) (Or.inl ⟨by kernel_rfl, ?_⟩) (by assumption) ?_; rotate_left; (focus (intro w hSw; (try dsimp only at hSw); go_simp; (try with_reducible rfl))); (try simp only [Act.put, List.getElem_toArray, List.getElem_cons_zero, List.getElem_cons_succ, List.setIfInBounds_toArray, List.set_cons_zero, List.set_cons_succ]))
          (refine wpAnyH_take (i := 11) (v := ?_) rfl (by kernel_rfl) (by kernel_rfl) (by kernel_rfl) (fun _ _ _ h => h) (Or.inl ⟨by kernel_rfl, ?_⟩) (by assumption) ?_; rotate_left; (focus (intro w hSw; (try dsimp only at hSw); go_simp; (try with_reducible rfl))); (try simp only [Act.put, List.getElem_toArray, List.getElem_cons_zero, List.getElem_cons_succ, List.setIfInBounds_toArray, List.set_cons_zero, List.set_cons_succ]))
          obtain ⟨p0, p1, p2, p3, p4, p5, p6, pf⟩ := P11.out
          have f0 := pf 0
          have f1 := pf 1
          have f2 := pf 2
          have f3 := pf 3
          have f4 := pf 4
          have f5 := pf 5
          have f6 := pf 6
          clear pf
          refine wpAnyH_ready (rs := [13]) (by kernel_rfl) (by simp) ?_
          refine AllReadyH.cons rfl (fun K hK => ?_) (AllReadyH.nil)
          (try simp only [List.getElem_toArray, List.getElem_cons_zero, List.getElem_cons_succ])
          (try rw [if_pos (by kernel_rfl)])
          go_simp
          (try dsimp only)
          refine hK.out _ _ ?_ (fun hHeld => ?_)
          · exact ⟨(set7_keep _ (by show b ≠ bp; omega)).trans u0, (set7_keep _ (by show b ≠ bp; omega)).trans u1, (set7_keep _ (by show b ≠ bp; omega)).trans u2, (set7_keep _ (by show b ≠ bp; omega)).trans u3, (set7_keep _ (by show bd ≠ bp; omega)).trans t0, (set7_keep _ (by show bd ≠ bp; omega)).trans t1, (set7_keep _ (by show bd ≠ bp; omega)).trans t2, by simpa using zc11, by simpa using zd11⟩
          clear hK K
          (try simp only [Act.put, List.getElem_toArray, List.getElem_cons_zero, List.getElem_cons_succ, List.setIfInBounds_toArray, List.set_cons_zero, List.set_cons_succ])
          (refine wpAnyH_take (i := 14) (v := ?_) rfl (by kernel_rfl) (by kernel_rfl) (by kernel_rfl) (fun _ _ _ h => h) (Or.inl ⟨by kernel_rfl, ?_⟩) (by assumption) ?_; rotate_left; (focus (intro w hSw; (try dsimp only at hSw); go_simp; (try with_reducible rfl))); (try simp only [Act.put, List.getElem_toArray, List.getElem_cons_zero, List.getElem_cons_succ, List.setIfInBounds_toArray, List.set_cons_zero, List.set_cons_succ]))
          refine wpAnyH_done (by kernel_rfl) ?_ _
          go_wp2_with fail
          go_meet
          have zz : bp < w11.heap.size := P11.out.lt
          exact ⟨rfl, bp, L2, l, cc2, zs, te, K0, d, 1 + x, rfl, (K11.out.set7 hbb).more (by omega), D11.out.keep (set7_heap _ (by omega)), work_set7 P11.out _ _ _ _ _ _ _, ((J11.out.keep (fun p h1 h2 => set7_keep _ (by omega))).low (lo' := b + 1) (by omega)).more (by simp), hdp, cp2.1, cp2.2, HP.out⟩
      · skip
        (try simp only [List.getElem_toArray, List.getElem_cons_zero, List.getElem_cons_succ])
        (try rw [if_pos (by kernel_rfl)])
        go_simp
        have hal := alb0 w8 (.cells #[.slice none 0 0, .int .i64 0, .int .i64 0, .int .i64 0, .int .i64 0, .int .i64 0, .int .i64 0] 32)
        have hsz : w8.heap.size ≤ (w8.alloc (.cells #[.slice none 0 0, .int .i64 0, .int .i64 0, .int .i64 0, .int .i64 0, .int .i64 0, .int .i64 0] 32)).heap.size := hal.size
        have K9 := Lib.hid (K8.out.call hal)
        have D9 := Lib.hid (D8.out.call hal)
        have I9 := Lib.hid ((I8.out.call hal (Nat.le_refl _)).more hsz)
        have P9 : Hid (Work (w8.alloc (.cells #[.slice none 0 0, .int .i64 0, .int .i64 0, .int .i64 0, .int .i64 0, .int .i64 0, .int .i64 0] 32)) w8.heap.size (.slice none 0 0) 0 0 0 0 0 0) := Lib.hid (work_new _ _ _ _ _ _ _ _ _)
        obtain ⟨w9, hw9⟩ : ∃ W, w8.alloc (.cells #[.slice none 0 0, .int .i64 0, .int .i64 0, .int .i64 0, .int .i64 0, .int .i64 0, .int .i64 0] 32) = W := ⟨_, rfl⟩
        obtain ⟨bp, hbp⟩ : ∃ q, w8.heap.size = q := ⟨_, rfl⟩
        have hdp : bd < bp := by have := D8.out.lt; omega
        have hbb : b < bp := by have := K8.out.cal.lt; omega
        rw [hw9] at K9 D9 I9 P9
        rw [hbp] at P9
        clear u0 u1 u2 u3 t0 t1 t2 zc8 zd8
        obtain ⟨zc9, u0, u1, u2, u3⟩ := K9.out.cal.at_
        obtain ⟨t0, t1, t2, -⟩ := D9.out
        have zd9 := D9.out.lt
        (try dsimp only)
        refine hK.out _ _ (by rw [hw9]; exact ⟨u0, u1, u2, u3, t0, t1, t2, zc9, zd9⟩) (fun hHeld => ?_)
        clear hK K hal hsz
        (try simp only [Act.put, List.getElem_toArray, List.getElem_cons_zero, List.getElem_cons_succ, List.setIfInBounds_toArray, List.set_cons_zero, List.set_cons_succ])
        rw [hw9]
        (try rw [hbp])
        clear hw9 hbp
        refine wpAnyH_ready (rs := [6]) (by kernel_rfl) (by simp) ?_
        refine AllReadyH.cons rfl (fun K hK => ?_) (AllReadyH.nil)
        (try simp only [List.getElem_toArray, List.getElem_cons_zero, List.getElem_cons_succ])
        (try rw [if_pos (by kernel_rfl)])
        go_simp
        go_at_call 66
        refine (pick_any A n c B g (M + 170) we _ K9.out.src (HBY.out _ K9.out.gb) hBg hn (by omega) (by omega)).mono ?_
        rintro e1 w10 ⟨v, ⟨x, rfl, x0, x1⟩, rfl, hs, hq⟩
        have hx : 1 ≤ 1 + x ∧ 1 + x ≤ we := by split at x1 <;> omega
        have hsz := hq.size
        have gg := K9.out.gl
        have gb := K9.out.ql
        have gc := K9.out.lb
        have K10 := Lib.hid (K9.out.draw hs hq)
        have D10 := Lib.hid (D9.out.grown hq (by omega))
        have I10 := Lib.hid ((I9.out.only hq (by omega) (Nat.le_refl _)).more hsz)
        have P10 := Lib.hid (P9.out.far hq (by omega))
        clear u0 u1 u2 u3 t0 t1 t2 zc9 zd9
        clear hs hq x1 hsz
        obtain ⟨zc10, u0, u1, u2, u3⟩ := K10.out.cal.at_
        obtain ⟨t0, t1, t2, -⟩ := D10.out
        have zd10 := D10.out.lt
        (try dsimp only)
        refine hK.out _ _ ?_ (fun hHeld => ?_)
        · exact ⟨u0, u1, u2, u3, t0, t1, t2, zc10, zd10⟩
        clear hK K
        (try simp only [Act.put, List.getElem_toArray, List.getElem_cons_zero, List.getElem_cons_succ, List.setIfInBounds_toArray, List.set_cons_zero, List.set_cons_succ])
        (refine wpAnyH_take (i := 7) (v := ?_) rfl (by kernel_rfl) (by kernel_rfl) (by kernel_rfl) (fun _ _ _ h => h) (Or.inl ⟨by kernel_rfl, ?_⟩) (by assumption) ?_; rotate_left; (focus (intro w hSw; (try dsimp only at hSw); go_simp; (try with_reducible rfl))); (try simp only [Act.put, List.getElem_toArray, List.getElem_cons_zero, List.getElem_cons_succ, List.setIfInBounds_toArray, List.set_cons_zero, List.set_cons_succ]))
        refine wpAnyH_ready (rs := [8]) (by kernel_rfl) (by simp) ?_
        refine AllReadyH.cons rfl (fun K hK => ?_) (AllReadyH.nil)
        (try simp only [List.getElem_toArray, List.getElem_cons_zero, List.getElem_cons_succ])
        (try rw [if_pos (by kernel_rfl)])
        go_simp
        have hwd : inB (1 + x) 1 we = true := inB_mk hx.1 hx.2
        have HP := Lib.hid (set_perp (wk := 1 + x) HV.out hvc I10.out.1.len hmd hdo hwd)
        have cS := specSetPerpetual_any nm A1 A2 L n1 n2 c1 c2 l cc w10.heap.size ms rs we zs y m d (1 + x) w10 K10.out.cal.months K10.out.cal.rules I10.out.1 (Nat.le_refl _) (by omega) (by omega) hl6 HEV.out
        rw [rSet_ok HAS.out (by rw [hdo, hwd]; rfl)] at cS
        have hix := (setIx_bd (l := l) (n := n1) (y := y) (m := m) hmd hl1 hl2 m1 hdd.1.1 hdd.2.1.1 hdd.2.1.2)
        obtain ⟨K0, hK0⟩ : ∃ K0 : Nat, setIx l n1 y m = (K0 : Int) := Int.eq_ofNat_of_zero_le (by unfold setIx; omega)
        rw [hK0] at cS HP
        generalize teK ms (maxK zs (l - 1)) n1 = te at *
        have CS := Lib.hid cS
        clear cS hK0 hix hwd
        have hw1 : IntKind.i64.wrap (1 + x) = 1 + x := IntWalk.i64_in _ (by omega)
        rw [hw1]
        clear hw1
        go_at_call 65
        refine CS.out.mono ?_
        rintro e1 w11 ⟨L2, cc2, rfl, ho2, hb2⟩
        have cp2 := own_caps ho2
        have K11 := Lib.hid (K10.out.call hb2)
        have D11 := Lib.hid (D10.out.call hb2)
        have P11 := Lib.hid (P10.out.call hb2)
        have zs11 : bp < w10.heap.size := P10.out.lt
        have J11 := Lib.hid (IntsIn.low (lo' := bp + 1) (IntsIn.of ho2) (by omega))
        clear u0 u1 u2 u3 t0 t1 t2 zc10 zd10
        clear hb2 ho2 CS
        obtain ⟨zc11, u0, u1, u2, u3⟩ := K11.out.cal.at_
        obtain ⟨t0, t1, t2, -⟩ := D11.out
        have zd11 := D11.out.lt
        (try dsimp only)
        refine hK.out _ _ ?_ (fun hHeld => ?_)
        · exact ⟨u0, u1, u2, u3, t0, t1, t2, zc11, zd11⟩
        clear hK K
        (try simp only [Act.put, List.getElem_toArray, List.getElem_cons_zero, List.getElem_cons_succ, List.setIfInBounds_toArray, List.set_cons_zero, List.set_cons_succ])
        (refine wpAnyH_take (i := 9) (v := ?_) rfl (by kernel_rfl) (by kernel_rfl) (by kernel_rfl) (fun _ _ _ h => h) (Or.inl ⟨by kernel_rfl, ?_⟩) (by assumption) ?_; rotate_left; (focus (intro w hSw; (try dsimp only at hSw); go_simp; (try with_reducible rfl))); (try simp only [Act.put, List.getElem_toArray, List.getElem_cons_zero, List.getElem_cons_succ, List.setIfInBounds_toArray, List.set_cons_zero, List.set_cons_succ]))
        (refine wpAnyH_take (i := 10) (v := ?_) rfl (by kernel_rfl) (by kernel_rfl) (by kernel_rfl) (fun _ _ _ h => h) (Or.inl ⟨by kernel_rfl, ?_⟩) (by assumption) ?_; rotate_left; (focus (intro w hSw; (try dsimp only at hSw); go_simp; (try with_reducible rfl))); (try simp only [Act.put, List.getElem_toArray, List.getElem_cons_zero, List.getElem_cons_succ, List.setIfInBounds_toArray, List.set_cons_zero, List.set_cons_succ]))
        (refine wpAnyH_take (i := 11) (v := ?_) rfl (by kernel_rfl) (by kernel_rfl) (by kernel_rfl) (fun _ _ _ h => h) (Or.inl ⟨by kernel_rfl, ?_⟩) (by assumption) ?_; rotate_left; (focus (intro w hSw; (try dsimp only at hSw); go_simp; (try with_reducible rfl))); (try simp only [Act.put, List.getElem_toArray, List.getElem_cons_zero, List.getElem_cons_succ, List.setIfInBounds_toArray, List.set_cons_zero, List.set_cons_succ]))
        obtain ⟨p0, p1, p2, p3, p4, p5, p6, pf⟩ := P11.out
        have f0 := pf 0
        have f1 := pf 1
        have f2 := pf 2
        have f3 := pf 3
        have f4 := pf 4
        have f5 := pf 5
        have f6 := pf 6
        clear pf
        refine wpAnyH_ready (rs := [13]) (by kernel_rfl) (by simp) ?_
        refine AllReadyH.cons rfl (fun K hK => ?_) (AllReadyH.nil)
        (try simp only [List.getElem_toArray, List.getElem_cons_zero, List.getElem_cons_succ])
        (try rw [if_pos (by kernel_rfl)])
        go_simp
        (try dsimp only)
        refine hK.out _ _ ?_ (fun hHeld => ?_)
        · exact ⟨(set7_keep _ (by show b ≠ bp; omega)).trans u0, (set7_keep _ (by show b ≠ bp; omega)).trans u1, (set7_keep _ (by show b ≠ bp; omega)).trans u2, (set7_keep _ (by show b ≠ bp; omega)).trans u3, (set7_keep _ (by show bd ≠ bp; omega)).trans t0, (set7_keep _ (by show bd ≠ bp; omega)).trans t1, (set7_keep _ (by show bd ≠ bp; omega)).trans t2, by simpa using zc11, by simpa using zd11⟩
        clear hK K
        (try simp only [Act.put, List.getElem_toArray, List.getElem_cons_zero, List.getElem_cons_succ, List.setIfInBounds_toArray, List.set_cons_zero, List.set_cons_succ])
        (refine wpAnyH_take (i := 14) (v := ?_) rfl (by kernel_rfl) (by kernel_rfl) (by kernel_rfl) (fun _ _ _ h => h) (Or.inl ⟨by kernel_rfl, ?_⟩) (by assumption) ?_; rotate_left; (focus (intro w hSw; (try dsimp only at hSw); go_simp; (try with_reducible rfl))); (try simp only [Act.put, List.getElem_toArray, List.getElem_cons_zero, List.getElem_cons_succ, List.setIfInBounds_toArray, List.set_cons_zero, List.set_cons_succ]))
        refine wpAnyH_done (by kernel_rfl) ?_ _
        go_wp2_with fail
        go_meet
        have zz : bp < w11.heap.size := P11.out.lt
        exact ⟨rfl, bp, L2, l, cc2, zs, te, K0, d, 1 + x, rfl, (K11.out.set7 hbb).more (by omega), D11.out.keep (set7_heap _ (by omega)), work_set7 P11.out _ _ _ _ _ _ _, ((J11.out.keep (fun p h1 h2 => set7_keep _ (by omega))).low (lo' := b + 1) (by omega)).more (by simp), hdp, cp2.1, cp2.2, HP.out⟩
    case rest =>
      obtain ⟨rfl, bp, L2, l2, cc2, zs2, te, K0, da, wd, rfl, hK, hD, hP, hI, hbp, hl, hcc, hvp⟩ := hcut
      revert hK hD hP hI
      generalize wc = w9
      intro hK hD hP hI
      have K9 := Lib.hid hK
      have D9 := Lib.hid hD
      have P9 := Lib.hid hP
      have I9 := Lib.hid hI
      have HVP := Lib.hid hvp
      clear hK hD hP hI hvp K7 D7 I7
      go_upto_region 9 with fail
      have K9d : Hid (SK w w9.drew g A n c (M + 172) b lo hi nm A1 A2 n1 n2 c1 c2 we ms rs) := Lib.hid (K9.out.call (Below.drew (Below.refl _ _)))
      have D9d : Hid (DatAt w9.drew bd y m d) := Lib.hid D9.out
      have P9d : Hid (Work w9.drew bp (.slice L2 l2 cc2) (n1 : Int) te ((K0 : Nat) : Int) da we wd) := Lib.hid P9.out
      have I9d : Hid (IntsIn w9.drew (b + 1) w9.drew.heap.size L2 l2 zs2) := Lib.hid I9.out
      obtain ⟨zc9, u0, u1, u2, u3⟩ := K9.out.cal.at_
      obtain ⟨t0, t1, t2, -⟩ := D9.out
      obtain ⟨p0, p1, p2, p3, p4, p5, p6, -⟩ := P9.out
      have zd9 := D9.out.lt
      have zp9 := P9.out.lt
      have gb := K9.out.ql
      have gc := K9.out.lb
      have hqd := HNE.out
      refine wp_region_held_drew (S := (fun w' => w'.cell? ⟨b, 0, none⟩ = some (.string nm) ∧ w'.cell? ⟨b, 1, none⟩ = some (.slice A1 n1 c1) ∧ w'.cell? ⟨b, 2, none⟩ = some (.slice A2 n2 c2) ∧ w'.cell? ⟨b, 3, none⟩ = some (.int .i64 we) ∧ w'.cell? ⟨bd, 0, none⟩ = some (.int .i64 y) ∧ w'.cell? ⟨bd, 1, none⟩ = some (.int .i64 m) ∧ w'.cell? ⟨bd, 2, none⟩ = some (.int .i64 d) ∧ w'.cell? ⟨bp, 0, none⟩ = some (.slice L2 l2 cc2) ∧ w'.cell? ⟨bp, 1, none⟩ = some (.int .i64 (n1 : Int)) ∧ w'.cell? ⟨bp, 2, none⟩ = some (.int .i64 te) ∧ w'.cell? ⟨bp, 3, none⟩ = some (.int .i64 (K0 : Int)) ∧ w'.cell? ⟨bp, 4, none⟩ = some (.int .i64 da) ∧ w'.cell? ⟨bp, 5, none⟩ = some (.int .i64 we) ∧ w'.cell? ⟨bp, 6, none⟩ = some (.int .i64 wd) ∧ b < w'.heap.size ∧ bd < w'.heap.size ∧ bp < w'.heap.size)) (by kernel_rfl) ?_ (fun hHeld => ?_)
      · (try dsimp only); (first | ((try go_split_ands); (try dsimp only); refine ⟨?_, ?_, ?_, ?_, ?_, ?_, ?_, ?_, ?_, ?_, ?_, ?_, ?_, ?_, ?_, ?_, ?_⟩ <;> first | (exact cell_call (by assumption) (by assumption) (by assumption)) | (exact lt_call (by assumption) (by assumption)) | (exact below_call' (by assumption) (by assumption)) | (exact Below.drew (by assumption)) | (with_reducible assumption) | (simp; done) | (simp [*]; done) | ((repeat (first | with_reducible exact Below.refl _ _ | with_reducible refine below_alloc ?_ _ | with_reducible refine below_drewN ?_ _ | with_reducible refine Below.drew ?_ | ((with_reducible refine below_set ?_ ?_ _); rotate_left; (focus (first | (simp; done) | (simp; omega) | omega))) | with_reducible refine below_call ?_ (by assumption))); done) | omega | (simp; omega) | (simp [go_sem]; done) | (simp [go_sem, *]; done)))
      (refine wpAnyH_take (i := 0) (v := ?_) rfl (by kernel_rfl) (by kernel_rfl) (by kernel_rfl) (fun _ _ _ h => h) (Or.inl ⟨by kernel_rfl, ?_⟩) (by assumption) ?_; rotate_left; (focus (intro w hSw; (try dsimp only at hSw); go_simp; (try with_reducible rfl))); (try simp only [Act.put, List.getElem_toArray, List.getElem_cons_zero, List.getElem_cons_succ, List.setIfInBounds_toArray, List.set_cons_zero, List.set_cons_succ]))
      (refine wpAnyH_take (i := 1) (v := ?_) rfl (by kernel_rfl) (by kernel_rfl) (by kernel_rfl) (fun _ _ _ h => h) (Or.inl ⟨by kernel_rfl, ?_⟩) (by assumption) ?_; rotate_left; (focus (intro w hSw; (try dsimp only at hSw); go_simp; (try with_reducible rfl))); (try simp only [Act.put, List.getElem_toArray, List.getElem_cons_zero, List.getElem_cons_succ, List.setIfInBounds_toArray, List.set_cons_zero, List.set_cons_succ]))
      (refine wpAnyH_take (i := 2) (v := ?_) rfl (by kernel_rfl) (by kernel_rfl) (by kernel_rfl) (fun _ _ _ h => h) (Or.inl ⟨by kernel_rfl, ?_⟩) (by assumption) ?_; rotate_left; (focus (intro w hSw; (try dsimp only at hSw); go_simp; (try with_reducible rfl))); (try simp only [Act.put, List.getElem_toArray, List.getElem_cons_zero, List.getElem_cons_succ, List.setIfInBounds_toArray, List.set_cons_zero, List.set_cons_succ]))
      clear K9 D9 P9 I9 u0 u1 u2 u3 t0 t1 t2 p0 p1 p2 p3 p4 p5 p6 zc9 zd9 zp9
      generalize w9.drew = wA at *
      have K9 := K9d
      have D9 := D9d
      have P9 := P9d
      have I9 := I9d
      clear K9d D9d P9d I9d
      obtain ⟨zc9, u0, u1, u2, u3⟩ := K9.out.cal.at_
      obtain ⟨t0, t1, t2, -⟩ := D9.out
      obtain ⟨p0, p1, p2, p3, p4, p5, p6, -⟩ := P9.out
      have zd9 := D9.out.lt
      have zp9 := P9.out.lt
      have hlq := K9.out.hb
      obtain ⟨⟨-, a0, a1, a2, a3⟩, af⟩ := K9.out.rb.c
      have g0 := af 0
      have g1 := af 1
      have g2 := af 2
      have g3 := af 3
      clear af
      refine wpAnyH_ready (rs := [3]) (by kernel_rfl) (by simp) ?_
      refine AllReadyH.cons rfl (fun K hK => ?_) (AllReadyH.nil)
      (try simp only [List.getElem_toArray, List.getElem_cons_zero, List.getElem_cons_succ])
      (try rw [if_pos (by kernel_rfl)])
      go_simp
      (try dsimp only)
      refine hK.out _ _ ?_ (fun hHeld => ?_)
      · exact ⟨((set4_keep _ (by show b ≠ w.heap.size; omega)).trans u0), ((set4_keep _ (by show b ≠ w.heap.size; omega)).trans u1), ((set4_keep _ (by show b ≠ w.heap.size; omega)).trans u2), ((set4_keep _ (by show b ≠ w.heap.size; omega)).trans u3), ((set4_keep _ (by show bd ≠ w.heap.size; omega)).trans t0), ((set4_keep _ (by show bd ≠ w.heap.size; omega)).trans t1), ((set4_keep _ (by show bd ≠ w.heap.size; omega)).trans t2), ((set4_keep _ (by show bp ≠ w.heap.size; omega)).trans p0), ((set4_keep _ (by show bp ≠ w.heap.size; omega)).trans p1), ((set4_keep _ (by show bp ≠ w.heap.size; omega)).trans p2), ((set4_keep _ (by show bp ≠ w.heap.size; omega)).trans p3), ((set4_keep _ (by show bp ≠ w.heap.size; omega)).trans p4), ((set4_keep _ (by show bp ≠ w.heap.size; omega)).trans p5), ((set4_keep _ (by show bp ≠ w.heap.size; omega)).trans p6), by simpa using zc9, by simpa using zd9, by simpa using zp9⟩
      clear hK K hHeld
      (try simp only [Act.put, List.getElem_toArray, List.getElem_cons_zero, List.getElem_cons_succ, List.setIfInBounds_toArray, List.set_cons_zero, List.set_cons_succ])
      clear a0 a1 a2 a3 g0 g1 g2 g3
      obtain ⟨a0, a1, a2, af⟩ := K9.out.rb.d.keep (w' := (((wA.setCell ⟨w.heap.size, 0, none⟩ (.string nm)).setCell ⟨w.heap.size, 1, none⟩ (.slice A1 n1 c1)).setCell ⟨w.heap.size, 2, none⟩ (.slice A2 n2 c2)).setCell ⟨w.heap.size, 3, none⟩ (.int .i64 we)) (set4_heap _ (by omega))
      have g0 := af 0
      have g1 := af 1
      have g2 := af 2
      clear af
      refine wpAnyH_ready (rs := [4]) (by kernel_rfl) (by simp) ?_
      refine AllReadyH.cons rfl (fun K hK => ?_) (AllReadyH.nil)
      (try simp only [List.getElem_toArray, List.getElem_cons_zero, List.getElem_cons_succ])
      (try rw [if_pos (by kernel_rfl)])
      go_simp
      (try dsimp only)
      refine hK.out _ _ ?_ (fun hHeld => ?_)
      · exact ⟨((set3_keep _ (by show b ≠ w.heap.size + 1; omega)).trans ((set4_keep _ (by show b ≠ w.heap.size; omega)).trans u0)), ((set3_keep _ (by show b ≠ w.heap.size + 1; omega)).trans ((set4_keep _ (by show b ≠ w.heap.size; omega)).trans u1)), ((set3_keep _ (by show b ≠ w.heap.size + 1; omega)).trans ((set4_keep _ (by show b ≠ w.heap.size; omega)).trans u2)), ((set3_keep _ (by show b ≠ w.heap.size + 1; omega)).trans ((set4_keep _ (by show b ≠ w.heap.size; omega)).trans u3)), ((set3_keep _ (by show bd ≠ w.heap.size + 1; omega)).trans ((set4_keep _ (by show bd ≠ w.heap.size; omega)).trans t0)), ((set3_keep _ (by show bd ≠ w.heap.size + 1; omega)).trans ((set4_keep _ (by show bd ≠ w.heap.size; omega)).trans t1)), ((set3_keep _ (by show bd ≠ w.heap.size + 1; omega)).trans ((set4_keep _ (by show bd ≠ w.heap.size; omega)).trans t2)), ((set3_keep _ (by show bp ≠ w.heap.size + 1; omega)).trans ((set4_keep _ (by show bp ≠ w.heap.size; omega)).trans p0)), ((set3_keep _ (by show bp ≠ w.heap.size + 1; omega)).trans ((set4_keep _ (by show bp ≠ w.heap.size; omega)).trans p1)), ((set3_keep _ (by show bp ≠ w.heap.size + 1; omega)).trans ((set4_keep _ (by show bp ≠ w.heap.size; omega)).trans p2)), ((set3_keep _ (by show bp ≠ w.heap.size + 1; omega)).trans ((set4_keep _ (by show bp ≠ w.heap.size; omega)).trans p3)), ((set3_keep _ (by show bp ≠ w.heap.size + 1; omega)).trans ((set4_keep _ (by show bp ≠ w.heap.size; omega)).trans p4)), ((set3_keep _ (by show bp ≠ w.heap.size + 1; omega)).trans ((set4_keep _ (by show bp ≠ w.heap.size; omega)).trans p5)), ((set3_keep _ (by show bp ≠ w.heap.size + 1; omega)).trans ((set4_keep _ (by show bp ≠ w.heap.size; omega)).trans p6)), by simpa using zc9, by simpa using zd9, by simpa using zp9⟩
      clear hK K hHeld
      (try simp only [Act.put, List.getElem_toArray, List.getElem_cons_zero, List.getElem_cons_succ, List.setIfInBounds_toArray, List.set_cons_zero, List.set_cons_succ])
      clear a0 a1 a2 g0 g1 g2
      obtain ⟨a0, a1, a2, a3, a4, a5, a6, af⟩ := K9.out.rb.p.keep (w' := ((((((wA.setCell ⟨w.heap.size, 0, none⟩ (.string nm)).setCell ⟨w.heap.size, 1, none⟩ (.slice A1 n1 c1)).setCell ⟨w.heap.size, 2, none⟩ (.slice A2 n2 c2)).setCell ⟨w.heap.size, 3, none⟩ (.int .i64 we)).setCell ⟨w.heap.size + 1, 0, none⟩ (.int .i64 y)).setCell ⟨w.heap.size + 1, 1, none⟩ (.int .i64 m)).setCell ⟨w.heap.size + 1, 2, none⟩ (.int .i64 d)) ((set3_heap _ (by omega)).trans (set4_heap _ (by omega)))
      have g0 := af 0
      have g1 := af 1
      have g2 := af 2
      have g3 := af 3
      have g4 := af 4
      have g5 := af 5
      have g6 := af 6
      clear af
      refine wpAnyH_ready (rs := [5]) (by kernel_rfl) (by simp) ?_
      refine AllReadyH.cons rfl (fun K hK => ?_) (AllReadyH.nil)
      (try simp only [List.getElem_toArray, List.getElem_cons_zero, List.getElem_cons_succ])
      (try rw [if_pos (by kernel_rfl)])
      go_simp
      (try dsimp only)
      refine hK.out _ _ ?_ (fun hHeld => ?_)
      · exact ⟨((set7_keep _ (by show b ≠ w.heap.size + 1 + 1; omega)).trans ((set3_keep _ (by show b ≠ w.heap.size + 1; omega)).trans ((set4_keep _ (by show b ≠ w.heap.size; omega)).trans u0))), ((set7_keep _ (by show b ≠ w.heap.size + 1 + 1; omega)).trans ((set3_keep _ (by show b ≠ w.heap.size + 1; omega)).trans ((set4_keep _ (by show b ≠ w.heap.size; omega)).trans u1))), ((set7_keep _ (by show b ≠ w.heap.size + 1 + 1; omega)).trans ((set3_keep _ (by show b ≠ w.heap.size + 1; omega)).trans ((set4_keep _ (by show b ≠ w.heap.size; omega)).trans u2))), ((set7_keep _ (by show b ≠ w.heap.size + 1 + 1; omega)).trans ((set3_keep _ (by show b ≠ w.heap.size + 1; omega)).trans ((set4_keep _ (by show b ≠ w.heap.size; omega)).trans u3))), ((set7_keep _ (by show bd ≠ w.heap.size + 1 + 1; omega)).trans ((set3_keep _ (by show bd ≠ w.heap.size + 1; omega)).trans ((set4_keep _ (by show bd ≠ w.heap.size; omega)).trans t0))), ((set7_keep _ (by show bd ≠ w.heap.size + 1 + 1; omega)).trans ((set3_keep _ (by show bd ≠ w.heap.size + 1; omega)).trans ((set4_keep _ (by show bd ≠ w.heap.size; omega)).trans t1))), ((set7_keep _ (by show bd ≠ w.heap.size + 1 + 1; omega)).trans ((set3_keep _ (by show bd ≠ w.heap.size + 1; omega)).trans ((set4_keep _ (by show bd ≠ w.heap.size; omega)).trans t2))), ((set7_keep _ (by show bp ≠ w.heap.size + 1 + 1; omega)).trans ((set3_keep _ (by show bp ≠ w.heap.size + 1; omega)).trans ((set4_keep _ (by show bp ≠ w.heap.size; omega)).trans p0))), ((set7_keep _ (by show bp ≠ w.heap.size + 1 + 1; omega)).trans ((set3_keep _ (by show bp ≠ w.heap.size + 1; omega)).trans ((set4_keep _ (by show bp ≠ w.heap.size; omega)).trans p1))), ((set7_keep _ (by show bp ≠ w.heap.size + 1 + 1; omega)).trans ((set3_keep _ (by show bp ≠ w.heap.size + 1; omega)).trans ((set4_keep _ (by show bp ≠ w.heap.size; omega)).trans p2))), ((set7_keep _ (by show bp ≠ w.heap.size + 1 + 1; omega)).trans ((set3_keep _ (by show bp ≠ w.heap.size + 1; omega)).trans ((set4_keep _ (by show bp ≠ w.heap.size; omega)).trans p3))), ((set7_keep _ (by show bp ≠ w.heap.size + 1 + 1; omega)).trans ((set3_keep _ (by show bp ≠ w.heap.size + 1; omega)).trans ((set4_keep _ (by show bp ≠ w.heap.size; omega)).trans p4))), ((set7_keep _ (by show bp ≠ w.heap.size + 1 + 1; omega)).trans ((set3_keep _ (by show bp ≠ w.heap.size + 1; omega)).trans ((set4_keep _ (by show bp ≠ w.heap.size; omega)).trans p5))), ((set7_keep _ (by show bp ≠ w.heap.size + 1 + 1; omega)).trans ((set3_keep _ (by show bp ≠ w.heap.size + 1; omega)).trans ((set4_keep _ (by show bp ≠ w.heap.size; omega)).trans p6))), by simpa using zc9, by simpa using zd9, by simpa using zp9⟩
      clear hK K hHeld
      (try simp only [Act.put, List.getElem_toArray, List.getElem_cons_zero, List.getElem_cons_succ, List.setIfInBounds_toArray, List.set_cons_zero, List.set_cons_succ])
      refine wpAnyH_done (by kernel_rfl) ?_ _
      clear a0 a1 a2 a3 a4 a5 a6 g0 g1 g2 g3 g4 g5 g6 u0 u1 u2 u3 t0 t1 t2 p0 p1 p2 p3 p4 p5 p6 zc9 zd9 zp9
      have FX := Lib.hid (fin_of (y := y) (m := m) (d := d) (mo := (n1 : Int)) (te := te) (ix := (K0 : Int)) (da := da) (wk := we) (wd := wd) (cc := cc2) K9.out I9.out (by omega))
      obtain ⟨wZ, hwZ⟩ : ∃ W, fin3 wA w.heap.size nm A1 A2 L2 n1 n2 c1 c2 l2 cc2 we y m d (n1 : Int) te (K0 : Int) da we wd = W := ⟨_, rfl⟩
      rw [hwZ] at FX
      unfold fin3 at hwZ
      rw [hwZ]
      clear hwZ
      obtain ⟨zx, x0, x1, x2, x3⟩ := FX.out.xc
      obtain ⟨e0, e1, e2, -⟩ := FX.out.xd
      obtain ⟨q0, q1, q2, q3, q4, q5, q6, -⟩ := FX.out.xp
      have zy := FX.out.xd.lt
      have zz := FX.out.xp.lt
      go_wp2
      refine bodyPost_ret (v := stV nm A1 A2 L2 n1 n2 c1 c2 l2 cc2 we y m d (n1 : Int) te (K0 : Int) da we wd) ?_ rfl ⟨⟨nm, A1, A2, n1, n2, c1, c2, ms, rs, we, y, m, d, L2, l2, cc2, zs2, te, K0, da, wd, rfl, FX.out.xm, FX.out.xr, hc1, hc2, HV.out, hdo, FX.out.xz, hl, hcc, HVP.out⟩, FX.out.src, FX.out.gb⟩
      simp [results, Try.results27, stV, go_sem, *]
  · clear hvc hmd hl1' hl2' I4
    have h4n : 4 * n1 ≤ 260 := by omega
    have cB := fun (W : World) (hK : CalIn W b lo hi nm A1 A2 n1 n2 c1 c2 we ms rs) => specBestCam_any nm A1 A2 n1 n2 c1 c2 W.heap.size ms rs we ((4 : Nat) : Int) W hK.months hK.rules (Nat.le_refl _) (by omega) (by omega) HEV.out
    have hok := camB_ok (s := 4) HV.out (by omega) h4n
    rw [rBC_ok (s := 4) HV.out (inB_mk (by omega) (by have := (div_le_bd (y := 4) m1).mpr h4n; omega))] at cB
    have hmd : (camB ms rs n1 n2 4).length % n1 = 0 := by rw [hok.2]; exact Nat.mul_mod_left 4 n1
    have hvc := hok.1
    generalize camB ms rs n1 n2 4 = zs4 at *
    generalize cntFaults ms rs n1 n2 zs4 (4 * n1) = cf at *
    have CB := Lib.hid cB
    clear cB hok
    obtain ⟨zc4, u0, u1, u2, u3⟩ := K4.out.cal.at_
    go_wp2_with fail
    go_at_call 63
    refine (CB.out _ K4.out.cal).mono ?_
    rintro e w5 ⟨L5, l5, cc5, rfl, ho5, hb5⟩
    have hz4 := K4.out.cal.lt
    have hcp := own_caps ho5
    have I5 := Lib.hid (IntsIn.low (lo' := b + 1) (IntsIn.of ho5) (by omega))
    have K5 := Lib.hid (K4.out.call hb5)
    clear hb5 ho5 K4 CB zc4 u0 u1 u2 u3 hz4
    dsimp only at I5 hcp ⊢
    obtain ⟨L, hL⟩ : ∃ L, L5 = L := ⟨_, rfl⟩
    obtain ⟨l, hl⟩ : ∃ l, l5 = l := ⟨_, rfl⟩
    obtain ⟨cc, hcc⟩ : ∃ l, cc5 = l := ⟨_, rfl⟩
    obtain ⟨zs, hzs⟩ : ∃ l, zs4 = l := ⟨_, rfl⟩
    rw [hL, hl, hzs] at I5
    rw [hzs] at hmd hvc
    rw [hl, hcc] at hcp
    have hlen := I5.out.1.len
    rw [hlen] at hmd
    rw [hL, hl, hcc]
    clear hL hl hcc hzs hlen
    have hl1' := hcp.1
    have hl2' := hcp.2
    obtain ⟨-, hl1, hl2⟩ := vCam_yes hvc
    rw [I5.out.1.len] at hl1 hl2
    have hl6 : l ≤ 1048576 := by omega
    have HAS := Lib.hid (show askV nm n1 n2 ms rs we zs l = 0 by rw [ask_good HV.out hvc, if_pos hmd])
    clear hcp
    obtain ⟨zc5, u0, u1, u2, u3⟩ := K5.out.cal.at_
    clear zc5 u0 u1 u2 u3
    go_wp2_with fail
    go_at_call 64
    have ga := K5.out.gl
    have gb := K5.out.ql
    have gc := K5.out.lb
    refine (l16Draw_any A n c B g (M + 150) b lo hi nm A1 A2 n1 n2 c1 c2 ms rs we _ K5.out.src (HBY.out _ K5.out.gb) hBg (Nat.le_trans hBw K5.out.gb.size) hn (by omega) K5.out.cal (by omega) (by omega) HV.out).mono ?_
    rintro e w6 ⟨v, ⟨y, m, d, rfl, hdo⟩, rfl, hs6, hq6⟩
    have hdd := dOk_yes hdo
    have K6 := Lib.hid ((K5.out.draw hs6 hq6).more (K' := M + 170) (by omega))
    have I6 := Lib.hid ((I5.out.only hq6 (by omega) (Nat.le_refl _)).more hq6.size)
    have hbl := K6.out.cal.lt
    clear hs6 hq6 K5 I5
    have hal := alb0 w6 (.cells #[.int .i64 y, .int .i64 m, .int .i64 d] 29)
    have K7 := Lib.hid (K6.out.call hal)
    have I7 := Lib.hid ((I6.out.call hal (Nat.le_refl _)).more hal.size)
    have D7 := Lib.hid (dat_new w6 29 y m d)
    clear hal K6 I6
    go_upto_region 6 with fail
    obtain ⟨w7, hw7⟩ : ∃ W, w6.alloc (.cells #[.int .i64 y, .int .i64 m, .int .i64 d] 29) = W := ⟨_, rfl⟩
    obtain ⟨bd, hbd⟩ : ∃ q, w6.heap.size = q := ⟨_, rfl⟩
    rw [hw7] at K7 I7 D7 ⊢
    rw [hbd] at D7 hbl ⊢
    clear hw7 hbd
    have HNE := Lib.hid hbl
    go_cut [8, 9] (fun p q wx => q = .int .i64 0 ∧ PX w wx g A n c (M + 172) b lo hi nm A1 A2 n1 n2 c1 c2 we ms rs bd y m d p)
    case first =>
      have K7d : Hid (SK w w7.drew g A n c (M + 170) b lo hi nm A1 A2 n1 n2 c1 c2 we ms rs) := Lib.hid (K7.out.call (Below.drew (Below.refl _ _)))
      have D7d : Hid (DatAt w7.drew bd y m d) := Lib.hid D7.out
      have I7d : Hid (IntsIn w7.drew (b + 1) w7.drew.heap.size L l zs) := Lib.hid I7.out
      obtain ⟨zc7, u0, u1, u2, u3⟩ := K7.out.cal.at_
      obtain ⟨t0, t1, t2, -⟩ := D7.out
      have zd7 := D7.out.lt
      refine wp_region_held_drew (S := (fun w' => w'.cell? ⟨b, 0, none⟩ = some (.string nm) ∧ w'.cell? ⟨b, 1, none⟩ = some (.slice A1 n1 c1) ∧ w'.cell? ⟨b, 2, none⟩ = some (.slice A2 n2 c2) ∧ w'.cell? ⟨b, 3, none⟩ = some (.int .i64 we) ∧ w'.cell? ⟨bd, 0, none⟩ = some (.int .i64 y) ∧ w'.cell? ⟨bd, 1, none⟩ = some (.int .i64 m) ∧ w'.cell? ⟨bd, 2, none⟩ = some (.int .i64 d) ∧ b < w'.heap.size ∧ bd < w'.heap.size)) (by kernel_rfl) ?_ (fun hHeld => ?_)
      · (try dsimp only); (first | ((try go_split_ands); (try dsimp only); refine ⟨?_, ?_, ?_, ?_, ?_, ?_, ?_, ?_, ?_⟩ <;> first | (exact cell_call (by assumption) (by assumption) (by assumption)) | (exact lt_call (by assumption) (by assumption)) | (exact below_call' (by assumption) (by assumption)) | (exact Below.drew (by assumption)) | (with_reducible assumption) | (simp; done) | (simp [*]; done) | ((repeat (first | with_reducible exact Below.refl _ _ | with_reducible refine below_alloc ?_ _ | with_reducible refine below_drewN ?_ _ | with_reducible refine Below.drew ?_ | ((with_reducible refine below_set ?_ ?_ _); rotate_left; (focus (first | (simp; done) | (simp; omega) | omega))) | with_reducible refine below_call ?_ (by assumption))); done) | omega | (simp; omega) | (simp [go_sem]; done) | (simp [go_sem, *]; done)))
      (refine wpAnyH_take (i := 0) (v := ?_) rfl (by kernel_rfl) (by kernel_rfl) (by kernel_rfl) (fun _ _ _ h => h) (Or.inl ⟨by kernel_rfl, ?_⟩) (by assumption) ?_; rotate_left; (focus (intro w hSw; (try dsimp only at hSw); go_simp; (try with_reducible rfl))); (try simp only [Act.put, List.getElem_toArray, List.getElem_cons_zero, List.getElem_cons_succ, List.setIfInBounds_toArray, List.set_cons_zero, List.set_cons_succ]))
      (refine wpAnyH_take (i := 1) (v := ?_) rfl (by kernel_rfl) (by kernel_rfl) (by kernel_rfl) (fun _ _ _ h => h) (Or.inl ⟨by kernel_rfl, ?_⟩) (by assumption) ?_; rotate_left; (focus (intro w hSw; (try dsimp only at hSw); go_simp; (try with_reducible rfl))); (try simp only [Act.put, List.getElem_toArray, List.getElem_cons_zero, List.getElem_cons_succ, List.setIfInBounds_toArray, List.set_cons_zero, List.set_cons_succ]))
      (refine wpAnyH_take (i := 2) (v := ?_) rfl (by kernel_rfl) (by kernel_rfl) (by kernel_rfl) (fun _ _ _ h => h) (Or.inl ⟨by kernel_rfl, ?_⟩) (by assumption) ?_; rotate_left; (focus (intro w hSw; (try dsimp only at hSw); go_simp; (try with_reducible rfl))); (try simp only [Act.put, List.getElem_toArray, List.getElem_cons_zero, List.getElem_cons_succ, List.setIfInBounds_toArray, List.set_cons_zero, List.set_cons_succ]))
      (refine wpAnyH_take (i := 3) (v := ?_) rfl (by kernel_rfl) (by kernel_rfl) (by kernel_rfl) (fun _ _ _ h => h) (Or.inl ⟨by kernel_rfl, ?_⟩) (by assumption) ?_; rotate_left; (focus (intro w hSw; (try dsimp only at hSw); go_simp; (try with_reducible rfl))); (try simp only [Act.put, List.getElem_toArray, List.getElem_cons_zero, List.getElem_cons_succ, List.setIfInBounds_toArray, List.set_cons_zero, List.set_cons_succ]))
      (refine wpAnyH_take (i := 4) (v := ?_) rfl (by kernel_rfl) (by kernel_rfl) (by kernel_rfl) (fun _ _ _ h => h) (Or.inl ⟨by kernel_rfl, ?_⟩) (by assumption) ?_; rotate_left; (focus (intro w hSw; (try dsimp only at hSw); go_simp; (try with_reducible rfl))); (try simp only [Act.put, List.getElem_toArray, List.getElem_cons_zero, List.getElem_cons_succ, List.setIfInBounds_toArray, List.set_cons_zero, List.set_cons_succ]))
      (refine wpAnyH_take (i := 5) (v := ?_) rfl (by kernel_rfl) (by kernel_rfl) (by kernel_rfl) (fun _ _ _ h => h) (Or.inl ⟨by kernel_rfl, ?_⟩) (by assumption) ?_; rotate_left; (focus (intro w hSw; (try dsimp only at hSw); go_simp; (try with_reducible rfl))); (try simp only [Act.put, List.getElem_toArray, List.getElem_cons_zero, List.getElem_cons_succ, List.setIfInBounds_toArray, List.set_cons_zero, List.set_cons_succ]))
      clear K7 D7 I7 u0 u1 u2 u3 t0 t1 t2 zc7 zd7
      generalize w7.drew = w8 at *
      have K8 := K7d
      have D8 := D7d
      have I8 := I7d
      clear K7d D7d I7d
      obtain ⟨zc8, u0, u1, u2, u3⟩ := K8.out.cal.at_
      obtain ⟨t0, t1, t2, -⟩ := D8.out
      have zd8 := D8.out.lt
      refine wpAnyH_ready (rs := [6, 12]) (by kernel_rfl) (by simp) ?_
      refine AllReadyH.cons rfl (fun K hK => ?_) (AllReadyH.cons rfl (fun K hK => ?_) (AllReadyH.nil))
      · skip
        (try simp only [List.getElem_toArray, List.getElem_cons_zero, List.getElem_cons_succ])
        (try rw [if_pos (by kernel_rfl)])
        go_simp
        go_at_call 66
        refine (pick_any A n c B g (M + 170) we _ K8.out.src (HBY.out _ K8.out.gb) hBg hn (by omega) (by omega)).mono ?_
        rintro e1 w9 ⟨v, ⟨x, rfl, x0, x1⟩, rfl, hs, hq⟩
        have hx : 1 ≤ 1 + x ∧ 1 + x ≤ we := by split at x1 <;> omega
        have hsz := hq.size
        have gg := K8.out.gl
        have gb := K8.out.ql
        have gc := K8.out.lb
        have K9 := Lib.hid (K8.out.draw hs hq)
        have D9 := Lib.hid (D8.out.grown hq (by omega))
        have I9 := Lib.hid ((I8.out.only hq (by omega) (Nat.le_refl _)).more hsz)
        clear u0 u1 u2 u3 t0 t1 t2 zc8 zd8
        clear hs hq x1 hsz
        obtain ⟨zc9, u0, u1, u2, u3⟩ := K9.out.cal.at_
        obtain ⟨t0, t1, t2, -⟩ := D9.out
        have zd9 := D9.out.lt
        (try dsimp only)
        refine hK.out _ _ ?_ (fun hHeld => ?_)
        · exact ⟨u0, u1, u2, u3, t0, t1, t2, zc9, zd9⟩
        clear hK K
        (try simp only [Act.put, List.getElem_toArray, List.getElem_cons_zero, List.getElem_cons_succ, List.setIfInBounds_toArray, List.set_cons_zero, List.set_cons_succ])
        (refine wpAnyH_take (i := 7) (v := ?_) rfl (by kernel_rfl) (by kernel_rfl) (by kernel_rfl) (fun _ _ _ h => h) (Or.inl ⟨by kernel_rfl, ?_⟩) (by assumption) ?_; rotate_left; (focus (intro w hSw; (try dsimp only at hSw); go_simp; (try with_reducible rfl))); (try simp only [Act.put, List.getElem_toArray, List.getElem_cons_zero, List.getElem_cons_succ, List.setIfInBounds_toArray, List.set_cons_zero, List.set_cons_succ]))
        refine wpAnyH_ready (rs := [8, 12]) (by kernel_rfl) (by simp) ?_
        refine AllReadyH.cons rfl (fun K hK => ?_) (AllReadyH.cons rfl (fun K hK => ?_) (AllReadyH.nil))
        · skip
          (try simp only [List.getElem_toArray, List.getElem_cons_zero, List.getElem_cons_succ])
          (try rw [if_pos (by kernel_rfl)])
          go_simp
          have hwd : inB (1 + x) 1 we = true := inB_mk hx.1 hx.2
          have HP := Lib.hid (set_perp (wk := 1 + x) HV.out hvc I9.out.1.len hmd hdo hwd)
          have cS := specSetPerpetual_any nm A1 A2 L n1 n2 c1 c2 l cc w9.heap.size ms rs we zs y m d (1 + x) w9 K9.out.cal.months K9.out.cal.rules I9.out.1 (Nat.le_refl _) (by omega) (by omega) hl6 HEV.out
          rw [rSet_ok HAS.out (by rw [hdo, hwd]; rfl)] at cS
          have hix := (setIx_bd (l := l) (n := n1) (y := y) (m := m) hmd hl1 hl2 m1 hdd.1.1 hdd.2.1.1 hdd.2.1.2)
          obtain ⟨K0, hK0⟩ : ∃ K0 : Nat, setIx l n1 y m = (K0 : Int) := Int.eq_ofNat_of_zero_le (by unfold setIx; omega)
          rw [hK0] at cS HP
          generalize teK ms (maxK zs (l - 1)) n1 = te at *
          have CS := Lib.hid cS
          clear cS hK0 hix hwd
          have hw1 : IntKind.i64.wrap (1 + x) = 1 + x := IntWalk.i64_in _ (by omega)
          rw [hw1]
          clear hw1
          go_at_call 65
          refine CS.out.mono ?_
          rintro e1 w10 ⟨L2, cc2, rfl, ho2, hb2⟩
          have cp2 := own_caps ho2
          have K10 := Lib.hid (K9.out.call hb2)
          have D10 := Lib.hid (D9.out.call hb2)
          have J10 := Lib.hid (IntsIn.low (lo' := b + 1) (IntsIn.of ho2) (by omega))
          clear u0 u1 u2 u3 t0 t1 t2 zc9 zd9
          clear hb2 ho2 CS
          obtain ⟨zc10, u0, u1, u2, u3⟩ := K10.out.cal.at_
          obtain ⟨t0, t1, t2, -⟩ := D10.out
          have zd10 := D10.out.lt
          (try dsimp only)
          refine hK.out _ _ ?_ (fun hHeld => ?_)
          · exact ⟨u0, u1, u2, u3, t0, t1, t2, zc10, zd10⟩
          clear hK K
          (try simp only [Act.put, List.getElem_toArray, List.getElem_cons_zero, List.getElem_cons_succ, List.setIfInBounds_toArray, List.set_cons_zero, List.set_cons_succ])
          (refine wpAnyH_take (i := 9) (v := ?_) rfl (by kernel_rfl) (by kernel_rfl) (by kernel_rfl) (fun _ _ _ h => h) (Or.inl ⟨by kernel_rfl, ?_⟩) (by assumption) ?_; rotate_left; (focus (intro w hSw; (try dsimp only at hSw); go_simp; (try with_reducible rfl))); (try simp only [Act.put, List.getElem_toArray, List.getElem_cons_zero, List.getElem_cons_succ, List.setIfInBounds_toArray, List.set_cons_zero, List.set_cons_succ]))
          (refine wpAnyH_take (i := 10) (v := ?_) rfl (by kernel_rfl) (by kernel_rfl) (by kernel_rfl) (fun _ _ _ h => h) (Or.inl ⟨by kernel_rfl, ?_⟩) (by assumption) ?_; rotate_left; (focus (intro w hSw; (try dsimp only at hSw); go_simp; (try with_reducible rfl))); (try simp only [Act.put, List.getElem_toArray, List.getElem_cons_zero, List.getElem_cons_succ, List.setIfInBounds_toArray, List.set_cons_zero, List.set_cons_succ]))
          (refine wpAnyH_take (i := 11) (v := ?_) rfl (by kernel_rfl) (by kernel_rfl) (by kernel_rfl) (fun _ _ _ h => h) (Or.inl ⟨by kernel_rfl, ?_⟩) (by assumption) ?_; rotate_left; (focus (intro w hSw; (try dsimp only at hSw); go_simp; (try with_reducible rfl))); (try simp only [Act.put, List.getElem_toArray, List.getElem_cons_zero, List.getElem_cons_succ, List.setIfInBounds_toArray, List.set_cons_zero, List.set_cons_succ]))
          refine wpAnyH_ready (rs := [12]) (by kernel_rfl) (by simp) ?_
          refine AllReadyH.cons rfl (fun K hK => ?_) (AllReadyH.nil)
          (try simp only [List.getElem_toArray, List.getElem_cons_zero, List.getElem_cons_succ])
          (try rw [if_pos (by kernel_rfl)])
          go_simp
          (try dsimp only)
          refine hK.out _ _ ?_ (fun hHeld => ?_)
          · refine ⟨?_, ?_, ?_, ?_, ?_, ?_, ?_, ?_, ?_⟩ <;> first | exact cell_call (alb' _ _) (by assumption) (by assumption) | exact lt_call (alb' _ _) (by assumption)
          clear hK K
          (try simp only [Act.put, List.getElem_toArray, List.getElem_cons_zero, List.getElem_cons_succ, List.setIfInBounds_toArray, List.set_cons_zero, List.set_cons_succ])
          refine wpAnyH_ready (rs := [13]) (by kernel_rfl) (by simp) ?_
          refine AllReadyH.cons rfl (fun K hK => ?_) (AllReadyH.nil)
          (try simp only [List.getElem_toArray, List.getElem_cons_zero, List.getElem_cons_succ])
          (try rw [if_pos (by kernel_rfl)])
          go_simp
          (try dsimp only)
          refine hK.out _ _ ?_ (fun hHeld => ?_)
          · refine ⟨?_, ?_, ?_, ?_, ?_, ?_, ?_, ?_, ?_⟩ <;> first | exact cell_call (alb' _ _) (by assumption) (by assumption) | exact lt_call (alb' _ _) (by assumption)
          clear hK K
          (try simp only [Act.put, List.getElem_toArray, List.getElem_cons_zero, List.getElem_cons_succ, List.setIfInBounds_toArray, List.set_cons_zero, List.set_cons_succ])
          (refine wpAnyH_take (i := 14) (v := ?_) rfl (by kernel_rfl) (by kernel_rfl) (by kernel_rfl) (fun _ _ _ h => h) (Or.inl ⟨by kernel_rfl, ?_⟩) (by assumption) ?_; rotate_left; (focus (intro w hSw; (try dsimp only at hSw); go_simp; (try with_reducible rfl))); (try simp only [Act.put, List.getElem_toArray, List.getElem_cons_zero, List.getElem_cons_succ, List.setIfInBounds_toArray, List.set_cons_zero, List.set_cons_succ]))
          refine wpAnyH_done (by kernel_rfl) ?_ _
          go_wp2_with fail
          go_meet
          exact ⟨rfl, _, L2, l, cc2, zs, te, K0, d, 1 + x, rfl, (K10.out.call (alb' _ _)).more (by omega), D10.out.call (alb' _ _), work_new _ _ _ _ _ _ _ _ _, (J10.out.call (alb' _ _) (Nat.le_refl _)).more (by simp), zd10, cp2.1, cp2.2, HP.out⟩
        · skip
          (try simp only [List.getElem_toArray, List.getElem_cons_zero, List.getElem_cons_succ])
          (try rw [if_pos (by kernel_rfl)])
          go_simp
          have hal := alb0 w9 (.cells #[.slice none 0 0, .int .i64 0, .int .i64 0, .int .i64 0, .int .i64 0, .int .i64 0, .int .i64 0] 32)
          have hsz : w9.heap.size ≤ (w9.alloc (.cells #[.slice none 0 0, .int .i64 0, .int .i64 0, .int .i64 0, .int .i64 0, .int .i64 0, .int .i64 0] 32)).heap.size := hal.size
          have K10 := Lib.hid (K9.out.call hal)
          have D10 := Lib.hid (D9.out.call hal)
          have I10 := Lib.hid ((I9.out.call hal (Nat.le_refl _)).more hsz)
          have P10 : Hid (Work (w9.alloc (.cells #[.slice none 0 0, .int .i64 0, .int .i64 0, .int .i64 0, .int .i64 0, .int .i64 0, .int .i64 0] 32)) w9.heap.size (.slice none 0 0) 0 0 0 0 0 0) := Lib.hid (work_new _ _ _ _ _ _ _ _ _)
          obtain ⟨w10, hw10⟩ : ∃ W, w9.alloc (.cells #[.slice none 0 0, .int .i64 0, .int .i64 0, .int .i64 0, .int .i64 0, .int .i64 0, .int .i64 0] 32) = W := ⟨_, rfl⟩
          obtain ⟨bp, hbp⟩ : ∃ q, w9.heap.size = q := ⟨_, rfl⟩
          have hdp : bd < bp := by have := D9.out.lt; omega
          have hbb : b < bp := by have := K9.out.cal.lt; omega
          rw [hw10] at K10 D10 I10 P10
          rw [hbp] at P10
          clear u0 u1 u2 u3 t0 t1 t2 zc9 zd9
          obtain ⟨zc10, u0, u1, u2, u3⟩ := K10.out.cal.at_
          obtain ⟨t0, t1, t2, -⟩ := D10.out
          have zd10 := D10.out.lt
          (try dsimp only)
          refine hK.out _ _ (by rw [hw10]; exact ⟨u0, u1, u2, u3, t0, t1, t2, zc10, zd10⟩) (fun hHeld => ?_)
          clear hK K hal hsz
          (try simp only [Act.put, List.getElem_toArray, List.getElem_cons_zero, List.getElem_cons_succ, List.setIfInBounds_toArray, List.set_cons_zero, List.set_cons_succ])
          rw [hw10]
          (try rw [hbp])
          clear hw10 hbp
          refine wpAnyH_ready (rs := [8]) (by kernel_rfl) (by simp) ?_
          refine AllReadyH.cons rfl (fun K hK => ?_) (AllReadyH.nil)
          (try simp only [List.getElem_toArray, List.getElem_cons_zero, List.getElem_cons_succ])
          (try rw [if_pos (by kernel_rfl)])
          go_simp
          have hwd : inB (1 + x) 1 we = true := inB_mk hx.1 hx.2
          have HP := Lib.hid (set_perp (wk := 1 + x) HV.out hvc I10.out.1.len hmd hdo hwd)
          have cS := specSetPerpetual_any nm A1 A2 L n1 n2 c1 c2 l cc w10.heap.size ms rs we zs y m d (1 + x) w10 K10.out.cal.months K10.out.cal.rules I10.out.1 (Nat.le_refl _) (by omega) (by omega) hl6 HEV.out
          rw [rSet_ok HAS.out (by rw [hdo, hwd]; rfl)] at cS
          have hix := (setIx_bd (l := l) (n := n1) (y := y) (m := m) hmd hl1 hl2 m1 hdd.1.1 hdd.2.1.1 hdd.2.1.2)
          obtain ⟨K0, hK0⟩ : ∃ K0 : Nat, setIx l n1 y m = (K0 : Int) := Int.eq_ofNat_of_zero_le (by unfold setIx; omega)
          rw [hK0] at cS HP
          generalize teK ms (maxK zs (l - 1)) n1 = te at *
          have CS := Lib.hid cS
          clear cS hK0 hix hwd
          have hw1 : IntKind.i64.wrap (1 + x) = 1 + x := IntWalk.i64_in _ (by omega)
          rw [hw1]
          clear hw1
          go_at_call 65
          refine CS.out.mono ?_
          rintro e1 w11 ⟨L2, cc2, rfl, ho2, hb2⟩
          have cp2 := own_caps ho2
          have K11 := Lib.hid (K10.out.call hb2)
          have D11 := Lib.hid (D10.out.call hb2)
          have P11 := Lib.hid (P10.out.call hb2)
          have zs11 : bp < w10.heap.size := P10.out.lt
          have J11 := Lib.hid (IntsIn.low (lo' := bp + 1) (IntsIn.of ho2) (by omega))
          clear u0 u1 u2 u3 t0 t1 t2 zc10 zd10
          clear hb2 ho2 CS
          obtain ⟨zc11, u0, u1, u2, u3⟩ := K11.out.cal.at_
          obtain ⟨t0, t1, t2, -⟩ := D11.out
          have zd11 := D11.out.lt
          (try dsimp only)
          refine hK.out _ _ ?_ (fun hHeld => ?_)
          · exact ⟨u0, u1, u2, u3, t0, t1, t2, zc11, zd11⟩
          clear hK K
          (try simp only [Act.put, List.getElem_toArray, List.getElem_cons_zero, List.getElem_cons_succ, List.setIfInBounds_toArray, List.set_cons_zero, List.set_cons_succ])
          (refine wpAnyH_take (i := 9) (v := ?_) rfl (by kernel_rfl) (by kernel_rfl) (by kernel_rfl) (fun _ _ _ h => h) (Or.inl ⟨by kernel_rfl, ?_⟩) (by assumption) ?_; rotate_left; (focus (intro w hSw; (try dsimp only at hSw); go_simp; (try with_reducible rfl))); (try simp only [Act.put, List.getElem_toArray, List.getElem_cons_zero, List.getElem_cons_succ, List.setIfInBounds_toArray, List.set_cons_zero, List.set_cons_succ]))
          (refine wpAnyH_take (i := 10) (v := ?_) rfl (by kernel_rfl) (by kernel_rfl) (by kernel_rfl) (fun _ _ _ h => h) (Or.inl ⟨by kernel_rfl, ?_⟩) (by assumption) ?_; rotate_left; (focus (intro w hSw; (try dsimp only at hSw); go_simp; (try with_reducible rfl))); (try simp only [Act.put, List.getElem_toArray, List.getElem_cons_zero, List.getElem_cons_succ, List.setIfInBounds_toArray, List.set_cons_zero, List.set_cons_succ]))
          (refine wpAnyH_take (i := 11) (v := ?_) rfl (by kernel_rfl) (by kernel_rfl) (by kernel_rfl) (fun _ _ _ h => h) (Or.inl ⟨by kernel_rfl, ?_⟩) (by assumption) ?_; rotate_left; (focus (intro w hSw; (try dsimp only at hSw); go_simp; (try with_reducible rfl))); (try simp only [Act.put, List.getElem_toArray, List.getElem_cons_zero, List.getElem_cons_succ, List.setIfInBounds_toArray, List.set_cons_zero, List.set_cons_succ]))
          obtain ⟨p0, p1, p2, p3, p4, p5, p6, pf⟩ := P11.out
          have f0 := pf 0
          have f1 := pf 1
          have f2 := pf 2
          have f3 := pf 3
          have f4 := pf 4
          have f5 := pf 5
          have f6 := pf 6
          clear pf
          refine wpAnyH_ready (rs := [13]) (by kernel_rfl) (by simp) ?_
          refine AllReadyH.cons rfl (fun K hK => ?_) (AllReadyH.nil)
          (try simp only [List.getElem_toArray, List.getElem_cons_zero, List.getElem_cons_succ])
          (try rw [if_pos (by kernel_rfl)])
          go_simp
          (try dsimp only)
          refine hK.out _ _ ?_ (fun hHeld => ?_)
          · exact ⟨(set7_keep _ (by show b ≠ bp; omega)).trans u0, (set7_keep _ (by show b ≠ bp; omega)).trans u1, (set7_keep _ (by show b ≠ bp; omega)).trans u2, (set7_keep _ (by show b ≠ bp; omega)).trans u3, (set7_keep _ (by show bd ≠ bp; omega)).trans t0, (set7_keep _ (by show bd ≠ bp; omega)).trans t1, (set7_keep _ (by show bd ≠ bp; omega)).trans t2, by simpa using zc11, by simpa using zd11⟩
          clear hK K
          (try simp only [Act.put, List.getElem_toArray, List.getElem_cons_zero, List.getElem_cons_succ, List.setIfInBounds_toArray, List.set_cons_zero, List.set_cons_succ])
          (refine wpAnyH_take (i := 14) (v := ?_) rfl (by kernel_rfl) (by kernel_rfl) (by kernel_rfl) (fun _ _ _ h => h) (Or.inl ⟨by kernel_rfl, ?_⟩) (by assumption) ?_; rotate_left; (focus (intro w hSw; (try dsimp only at hSw); go_simp; (try with_reducible rfl))); (try simp only [Act.put, List.getElem_toArray, List.getElem_cons_zero, List.getElem_cons_succ, List.setIfInBounds_toArray, List.set_cons_zero, List.set_cons_succ]))
          refine wpAnyH_done (by kernel_rfl) ?_ _
          go_wp2_with fail
          go_meet
          have zz : bp < w11.heap.size := P11.out.lt
          exact ⟨rfl, bp, L2, l, cc2, zs, te, K0, d, 1 + x, rfl, (K11.out.set7 hbb).more (by omega), D11.out.keep (set7_heap _ (by omega)), work_set7 P11.out _ _ _ _ _ _ _, ((J11.out.keep (fun p h1 h2 => set7_keep _ (by omega))).low (lo' := b + 1) (by omega)).more (by simp), hdp, cp2.1, cp2.2, HP.out⟩
      · skip
        (try simp only [List.getElem_toArray, List.getElem_cons_zero, List.getElem_cons_succ])
        (try rw [if_pos (by kernel_rfl)])
        go_simp
        have hal := alb0 w8 (.cells #[.slice none 0 0, .int .i64 0, .int .i64 0, .int .i64 0, .int .i64 0, .int .i64 0, .int .i64 0] 32)
        have hsz : w8.heap.size ≤ (w8.alloc (.cells #[.slice none 0 0, .int .i64 0, .int .i64 0, .int .i64 0, .int .i64 0, .int .i64 0, .int .i64 0] 32)).heap.size := hal.size
        have K9 := Lib.hid (K8.out.call hal)
        have D9 := Lib.hid (D8.out.call hal)
        have I9 := Lib.hid ((I8.out.call hal (Nat.le_refl _)).more hsz)
        have P9 : Hid (Work (w8.alloc (.cells #[.slice none 0 0, .int .i64 0, .int .i64 0, .int .i64 0, .int .i64 0, .int .i64 0, .int .i64 0] 32)) w8.heap.size (.slice none 0 0) 0 0 0 0 0 0) := Lib.hid (work_new _ _ _ _ _ _ _ _ _)
        obtain ⟨w9, hw9⟩ : ∃ W, w8.alloc (.cells #[.slice none 0 0, .int .i64 0, .int .i64 0, .int .i64 0, .int .i64 0, .int .i64 0, .int .i64 0] 32) = W := ⟨_, rfl⟩
        obtain ⟨bp, hbp⟩ : ∃ q, w8.heap.size = q := ⟨_, rfl⟩
        have hdp : bd < bp := by have := D8.out.lt; omega
        have hbb : b < bp := by have := K8.out.cal.lt; omega
        rw [hw9] at K9 D9 I9 P9
        rw [hbp] at P9
        clear u0 u1 u2 u3 t0 t1 t2 zc8 zd8
        obtain ⟨zc9, u0, u1, u2, u3⟩ := K9.out.cal.at_
        obtain ⟨t0, t1, t2, -⟩ := D9.out
        have zd9 := D9.out.lt
        (try dsimp only)
        refine hK.out _ _ (by rw [hw9]; exact ⟨u0, u1, u2, u3, t0, t1, t2, zc9, zd9⟩) (fun hHeld => ?_)
        clear hK K hal hsz
        (try simp only [Act.put, List.getElem_toArray, List.getElem_cons_zero, List.getElem_cons_succ, List.setIfInBounds_toArray, List.set_cons_zero, List.set_cons_succ])
        rw [hw9]
        (try rw [hbp])
        clear hw9 hbp
        refine wpAnyH_ready (rs := [6]) (by kernel_rfl) (by simp) ?_
        refine AllReadyH.cons rfl (fun K hK => ?_) (AllReadyH.nil)
        (try simp only [List.getElem_toArray, List.getElem_cons_zero, List.getElem_cons_succ])
        (try rw [if_pos (by kernel_rfl)])
        go_simp
        go_at_call 66
        refine (pick_any A n c B g (M + 170) we _ K9.out.src (HBY.out _ K9.out.gb) hBg hn (by omega) (by omega)).mono ?_
        rintro e1 w10 ⟨v, ⟨x, rfl, x0, x1⟩, rfl, hs, hq⟩
        have hx : 1 ≤ 1 + x ∧ 1 + x ≤ we := by split at x1 <;> omega
        have hsz := hq.size
        have gg := K9.out.gl
        have gb := K9.out.ql
        have gc := K9.out.lb
        have K10 := Lib.hid (K9.out.draw hs hq)
        have D10 := Lib.hid (D9.out.grown hq (by omega))
        have I10 := Lib.hid ((I9.out.only hq (by omega) (Nat.le_refl _)).more hsz)
        have P10 := Lib.hid (P9.out.far hq (by omega))
        clear u0 u1 u2 u3 t0 t1 t2 zc9 zd9
        clear hs hq x1 hsz
        obtain ⟨zc10, u0, u1, u2, u3⟩ := K10.out.cal.at_
        obtain ⟨t0, t1, t2, -⟩ := D10.out
        have zd10 := D10.out.lt
        (try dsimp only)
        refine hK.out _ _ ?_ (fun hHeld => ?_)
        · exact ⟨u0, u1, u2, u3, t0, t1, t2, zc10, zd10⟩
        clear hK K
        (try simp only [Act.put, List.getElem_toArray, List.getElem_cons_zero, List.getElem_cons_succ, List.setIfInBounds_toArray, List.set_cons_zero, List.set_cons_succ])
        (refine wpAnyH_take (i := 7) (v := ?_) rfl (by kernel_rfl) (by kernel_rfl) (by kernel_rfl) (fun _ _ _ h => h) (Or.inl ⟨by kernel_rfl, ?_⟩) (by assumption) ?_; rotate_left; (focus (intro w hSw; (try dsimp only at hSw); go_simp; (try with_reducible rfl))); (try simp only [Act.put, List.getElem_toArray, List.getElem_cons_zero, List.getElem_cons_succ, List.setIfInBounds_toArray, List.set_cons_zero, List.set_cons_succ]))
        refine wpAnyH_ready (rs := [8]) (by kernel_rfl) (by simp) ?_
        refine AllReadyH.cons rfl (fun K hK => ?_) (AllReadyH.nil)
        (try simp only [List.getElem_toArray, List.getElem_cons_zero, List.getElem_cons_succ])
        (try rw [if_pos (by kernel_rfl)])
        go_simp
        have hwd : inB (1 + x) 1 we = true := inB_mk hx.1 hx.2
        have HP := Lib.hid (set_perp (wk := 1 + x) HV.out hvc I10.out.1.len hmd hdo hwd)
        have cS := specSetPerpetual_any nm A1 A2 L n1 n2 c1 c2 l cc w10.heap.size ms rs we zs y m d (1 + x) w10 K10.out.cal.months K10.out.cal.rules I10.out.1 (Nat.le_refl _) (by omega) (by omega) hl6 HEV.out
        rw [rSet_ok HAS.out (by rw [hdo, hwd]; rfl)] at cS
        have hix := (setIx_bd (l := l) (n := n1) (y := y) (m := m) hmd hl1 hl2 m1 hdd.1.1 hdd.2.1.1 hdd.2.1.2)
        obtain ⟨K0, hK0⟩ : ∃ K0 : Nat, setIx l n1 y m = (K0 : Int) := Int.eq_ofNat_of_zero_le (by unfold setIx; omega)
        rw [hK0] at cS HP
        generalize teK ms (maxK zs (l - 1)) n1 = te at *
        have CS := Lib.hid cS
        clear cS hK0 hix hwd
        have hw1 : IntKind.i64.wrap (1 + x) = 1 + x := IntWalk.i64_in _ (by omega)
        rw [hw1]
        clear hw1
        go_at_call 65
        refine CS.out.mono ?_
        rintro e1 w11 ⟨L2, cc2, rfl, ho2, hb2⟩
        have cp2 := own_caps ho2
        have K11 := Lib.hid (K10.out.call hb2)
        have D11 := Lib.hid (D10.out.call hb2)
        have P11 := Lib.hid (P10.out.call hb2)
        have zs11 : bp < w10.heap.size := P10.out.lt
        have J11 := Lib.hid (IntsIn.low (lo' := bp + 1) (IntsIn.of ho2) (by omega))
        clear u0 u1 u2 u3 t0 t1 t2 zc10 zd10
        clear hb2 ho2 CS
        obtain ⟨zc11, u0, u1, u2, u3⟩ := K11.out.cal.at_
        obtain ⟨t0, t1, t2, -⟩ := D11.out
        have zd11 := D11.out.lt
        (try dsimp only)
        refine hK.out _ _ ?_ (fun hHeld => ?_)
        · exact ⟨u0, u1, u2, u3, t0, t1, t2, zc11, zd11⟩
        clear hK K
        (try simp only [Act.put, List.getElem_toArray, List.getElem_cons_zero, List.getElem_cons_succ, List.setIfInBounds_toArray, List.set_cons_zero, List.set_cons_succ])
        (refine wpAnyH_take (i := 9) (v := ?_) rfl (by kernel_rfl) (by kernel_rfl) (by kernel_rfl) (fun _ _ _ h => h) (Or.inl ⟨by kernel_rfl, ?_⟩) (by assumption) ?_; rotate_left; (focus (intro w hSw; (try dsimp only at hSw); go_simp; (try with_reducible rfl))); (try simp only [Act.put, List.getElem_toArray, List.getElem_cons_zero, List.getElem_cons_succ, List.setIfInBounds_toArray, List.set_cons_zero, List.set_cons_succ]))
        (refine wpAnyH_take (i := 10) (v := ?_) rfl (by kernel_rfl) (by kernel_rfl) (by kernel_rfl) (fun _ _ _ h => h) (Or.inl ⟨by kernel_rfl, ?_⟩) (by assumption) ?_; rotate_left; (focus (intro w hSw; (try dsimp only at hSw); go_simp; (try with_reducible rfl))); (try simp only [Act.put, List.getElem_toArray, List.getElem_cons_zero, List.getElem_cons_succ, List.setIfInBounds_toArray, List.set_cons_zero, List.set_cons_succ]))
        (refine wpAnyH_take (i := 11) (v := ?_) rfl (by kernel_rfl) (by kernel_rfl) (by kernel_rfl) (fun _ _ _ h => h) (Or.inl ⟨by kernel_rfl, ?_⟩) (by assumption) ?_; rotate_left; (focus (intro w hSw; (try dsimp only at hSw); go_simp; (try with_reducible rfl))); (try simp only [Act.put, List.getElem_toArray, List.getElem_cons_zero, List.getElem_cons_succ, List.setIfInBounds_toArray, List.set_cons_zero, List.set_cons_succ]))
        obtain ⟨p0, p1, p2, p3, p4, p5, p6, pf⟩ := P11.out
        have f0 := pf 0
        have f1 := pf 1
        have f2 := pf 2
        have f3 := pf 3
        have f4 := pf 4
        have f5 := pf 5
        have f6 := pf 6
        clear pf
        refine wpAnyH_ready (rs := [13]) (by kernel_rfl) (by simp) ?_
        refine AllReadyH.cons rfl (fun K hK => ?_) (AllReadyH.nil)
        (try simp only [List.getElem_toArray, List.getElem_cons_zero, List.getElem_cons_succ])
        (try rw [if_pos (by kernel_rfl)])
        go_simp
        (try dsimp only)
        refine hK.out _ _ ?_ (fun hHeld => ?_)
        · exact ⟨(set7_keep _ (by show b ≠ bp; omega)).trans u0, (set7_keep _ (by show b ≠ bp; omega)).trans u1, (set7_keep _ (by show b ≠ bp; omega)).trans u2, (set7_keep _ (by show b ≠ bp; omega)).trans u3, (set7_keep _ (by show bd ≠ bp; omega)).trans t0, (set7_keep _ (by show bd ≠ bp; omega)).trans t1, (set7_keep _ (by show bd ≠ bp; omega)).trans t2, by simpa using zc11, by simpa using zd11⟩
        clear hK K
        (try simp only [Act.put, List.getElem_toArray, List.getElem_cons_zero, List.getElem_cons_succ, List.setIfInBounds_toArray, List.set_cons_zero, List.set_cons_succ])
        (refine wpAnyH_take (i := 14) (v := ?_) rfl (by kernel_rfl) (by kernel_rfl) (by kernel_rfl) (fun _ _ _ h => h) (Or.inl ⟨by kernel_rfl, ?_⟩) (by assumption) ?_; rotate_left; (focus (intro w hSw; (try dsimp only at hSw); go_simp; (try with_reducible rfl))); (try simp only [Act.put, List.getElem_toArray, List.getElem_cons_zero, List.getElem_cons_succ, List.setIfInBounds_toArray, List.set_cons_zero, List.set_cons_succ]))
        refine wpAnyH_done (by kernel_rfl) ?_ _
        go_wp2_with fail
        go_meet
        have zz : bp < w11.heap.size := P11.out.lt
        exact ⟨rfl, bp, L2, l, cc2, zs, te, K0, d, 1 + x, rfl, (K11.out.set7 hbb).more (by omega), D11.out.keep (set7_heap _ (by omega)), work_set7 P11.out _ _ _ _ _ _ _, ((J11.out.keep (fun p h1 h2 => set7_keep _ (by omega))).low (lo' := b + 1) (by omega)).more (by simp), hdp, cp2.1, cp2.2, HP.out⟩
    case rest =>
      obtain ⟨rfl, bp, L2, l2, cc2, zs2, te, K0, da, wd, rfl, hK, hD, hP, hI, hbp, hl, hcc, hvp⟩ := hcut
      revert hK hD hP hI
      generalize wc = w9
      intro hK hD hP hI
      have K9 := Lib.hid hK
      have D9 := Lib.hid hD
      have P9 := Lib.hid hP
      have I9 := Lib.hid hI
      have HVP := Lib.hid hvp
      clear hK hD hP hI hvp K7 D7 I7
      go_upto_region 9 with fail
      have K9d : Hid (SK w w9.drew g A n c (M + 172) b lo hi nm A1 A2 n1 n2 c1 c2 we ms rs) := Lib.hid (K9.out.call (Below.drew (Below.refl _ _)))
      have D9d : Hid (DatAt w9.drew bd y m d) := Lib.hid D9.out
      have P9d : Hid (Work w9.drew bp (.slice L2 l2 cc2) (n1 : Int) te ((K0 : Nat) : Int) da we wd) := Lib.hid P9.out
      have I9d : Hid (IntsIn w9.drew (b + 1) w9.drew.heap.size L2 l2 zs2) := Lib.hid I9.out
      obtain ⟨zc9, u0, u1, u2, u3⟩ := K9.out.cal.at_
      obtain ⟨t0, t1, t2, -⟩ := D9.out
      obtain ⟨p0, p1, p2, p3, p4, p5, p6, -⟩ := P9.out
      have zd9 := D9.out.lt
      have zp9 := P9.out.lt
      have gb := K9.out.ql
      have gc := K9.out.lb
      have hqd := HNE.out
      refine wp_region_held_drew (S := (fun w' => w'.cell? ⟨b, 0, none⟩ = some (.string nm) ∧ w'.cell? ⟨b, 1, none⟩ = some (.slice A1 n1 c1) ∧ w'.cell? ⟨b, 2, none⟩ = some (.slice A2 n2 c2) ∧ w'.cell? ⟨b, 3, none⟩ = some (.int .i64 we) ∧ w'.cell? ⟨bd, 0, none⟩ = some (.int .i64 y) ∧ w'.cell? ⟨bd, 1, none⟩ = some (.int .i64 m) ∧ w'.cell? ⟨bd, 2, none⟩ = some (.int .i64 d) ∧ w'.cell? ⟨bp, 0, none⟩ = some (.slice L2 l2 cc2) ∧ w'.cell? ⟨bp, 1, none⟩ = some (.int .i64 (n1 : Int)) ∧ w'.cell? ⟨bp, 2, none⟩ = some (.int .i64 te) ∧ w'.cell? ⟨bp, 3, none⟩ = some (.int .i64 (K0 : Int)) ∧ w'.cell? ⟨bp, 4, none⟩ = some (.int .i64 da) ∧ w'.cell? ⟨bp, 5, none⟩ = some (.int .i64 we) ∧ w'.cell? ⟨bp, 6, none⟩ = some (.int .i64 wd) ∧ b < w'.heap.size ∧ bd < w'.heap.size ∧ bp < w'.heap.size)) (by kernel_rfl) ?_ (fun hHeld => ?_)
      · (try dsimp only); (first | ((try go_split_ands); (try dsimp only); refine ⟨?_, ?_, ?_, ?_, ?_, ?_, ?_, ?_, ?_, ?_, ?_, ?_, ?_, ?_, ?_, ?_, ?_⟩ <;> first | (exact cell_call (by assumption) (by assumption) (by assumption)) | (exact lt_call (by assumption) (by assumption)) | (exact below_call' (by assumption) (by assumption)) | (exact Below.drew (by assumption)) | (with_reducible assumption) | (simp; done) | (simp [*]; done) | ((repeat (first | with_reducible exact Below.refl _ _ | with_reducible refine below_alloc ?_ _ | with_reducible refine below_drewN ?_ _ | with_reducible refine Below.drew ?_ | ((with_reducible refine below_set ?_ ?_ _); rotate_left; (focus (first | (simp; done) | (simp; omega) | omega))) | with_reducible refine below_call ?_ (by assumption))); done) | omega | (simp; omega) | (simp [go_sem]; done) | (simp [go_sem, *]; done)))
      (refine wpAnyH_take (i := 0) (v := ?_) rfl (by kernel_rfl) (by kernel_rfl) (by kernel_rfl) (fun _ _ _ h => h) (Or.inl ⟨by kernel_rfl, ?_⟩) (by assumption) ?_; rotate_left; (focus (intro w hSw; (try dsimp only at hSw); go_simp; (try with_reducible rfl))); (try simp only [Act.put, List.getElem_toArray, List.getElem_cons_zero, List.getElem_cons_succ, List.setIfInBounds_toArray, List.set_cons_zero, List.set_cons_succ]))
      (refine wpAnyH_take (i := 1) (v := ?_) rfl (by kernel_rfl) (by kernel_rfl) (by kernel_rfl) (fun _ _ _ h => h) (Or.inl ⟨by kernel_rfl, ?_⟩) (by assumption) ?_; rotate_left; (focus (intro w hSw; (try dsimp only at hSw); go_simp; (try with_reducible rfl))); (try simp only [Act.put, List.getElem_toArray, List.getElem_cons_zero, List.getElem_cons_succ, List.setIfInBounds_toArray, List.set_cons_zero, List.set_cons_succ]))
      (refine wpAnyH_take (i := 2) (v := ?_) rfl (by kernel_rfl) (by kernel_rfl) (by kernel_rfl) (fun _ _ _ h => h) (Or.inl ⟨by kernel_rfl, ?_⟩) (by assumption) ?_; rotate_left; (focus (intro w hSw; (try dsimp only at hSw); go_simp; (try with_reducible rfl))); (try simp only [Act.put, List.getElem_toArray, List.getElem_cons_zero, List.getElem_cons_succ, List.setIfInBounds_toArray, List.set_cons_zero, List.set_cons_succ]))
      clear K9 D9 P9 I9 u0 u1 u2 u3 t0 t1 t2 p0 p1 p2 p3 p4 p5 p6 zc9 zd9 zp9
      generalize w9.drew = wA at *
      have K9 := K9d
      have D9 := D9d
      have P9 := P9d
      have I9 := I9d
      clear K9d D9d P9d I9d
      obtain ⟨zc9, u0, u1, u2, u3⟩ := K9.out.cal.at_
      obtain ⟨t0, t1, t2, -⟩ := D9.out
      obtain ⟨p0, p1, p2, p3, p4, p5, p6, -⟩ := P9.out
      have zd9 := D9.out.lt
      have zp9 := P9.out.lt
      have hlq := K9.out.hb
      obtain ⟨⟨-, a0, a1, a2, a3⟩, af⟩ := K9.out.rb.c
      have g0 := af 0
      have g1 := af 1
      have g2 := af 2
      have g3 := af 3
      clear af
      refine wpAnyH_ready (rs := [3]) (by kernel_rfl) (by simp) ?_
      refine AllReadyH.cons rfl (fun K hK => ?_) (AllReadyH.nil)
      (try simp only [List.getElem_toArray, List.getElem_cons_zero, List.getElem_cons_succ])
      (try rw [if_pos (by kernel_rfl)])
      go_simp
      (try dsimp only)
      refine hK.out _ _ ?_ (fun hHeld => ?_)
      · exact ⟨((set4_keep _ (by show b ≠ w.heap.size; omega)).trans u0), ((set4_keep _ (by show b ≠ w.heap.size; omega)).trans u1), ((set4_keep _ (by show b ≠ w.heap.size; omega)).trans u2), ((set4_keep _ (by show b ≠ w.heap.size; omega)).trans u3), ((set4_keep _ (by show bd ≠ w.heap.size; omega)).trans t0), ((set4_keep _ (by show bd ≠ w.heap.size; omega)).trans t1), ((set4_keep _ (by show bd ≠ w.heap.size; omega)).trans t2), ((set4_keep _ (by show bp ≠ w.heap.size; omega)).trans p0), ((set4_keep _ (by show bp ≠ w.heap.size; omega)).trans p1), ((set4_keep _ (by show bp ≠ w.heap.size; omega)).trans p2), ((set4_keep _ (by show bp ≠ w.heap.size; omega)).trans p3), ((set4_keep _ (by show bp ≠ w.heap.size; omega)).trans p4), ((set4_keep _ (by show bp ≠ w.heap.size; omega)).trans p5), ((set4_keep _ (by show bp ≠ w.heap.size; omega)).trans p6), by simpa using zc9, by simpa using zd9, by simpa using zp9⟩
      clear hK K hHeld
      (try simp only [Act.put, List.getElem_toArray, List.getElem_cons_zero, List.getElem_cons_succ, List.setIfInBounds_toArray, List.set_cons_zero, List.set_cons_succ])
      clear a0 a1 a2 a3 g0 g1 g2 g3
      obtain ⟨a0, a1, a2, af⟩ := K9.out.rb.d.keep (w' := (((wA.setCell ⟨w.heap.size, 0, none⟩ (.string nm)).setCell ⟨w.heap.size, 1, none⟩ (.slice A1 n1 c1)).setCell ⟨w.heap.size, 2, none⟩ (.slice A2 n2 c2)).setCell ⟨w.heap.size, 3, none⟩ (.int .i64 we)) (set4_heap _ (by omega))
      have g0 := af 0
      have g1 := af 1
      have g2 := af 2
      clear af
      refine wpAnyH_ready (rs := [4]) (by kernel_rfl) (by simp) ?_
      refine AllReadyH.cons rfl (fun K hK => ?_) (AllReadyH.nil)
      (try simp only [List.getElem_toArray, List.getElem_cons_zero, List.getElem_cons_succ])
      (try rw [if_pos (by kernel_rfl)])
      go_simp
      (try dsimp only)
      refine hK.out _ _ ?_ (fun hHeld => ?_)
      · exact ⟨((set3_keep _ (by show b ≠ w.heap.size + 1; omega)).trans ((set4_keep _ (by show b ≠ w.heap.size; omega)).trans u0)), ((set3_keep _ (by show b ≠ w.heap.size + 1; omega)).trans ((set4_keep _ (by show b ≠ w.heap.size; omega)).trans u1)), ((set3_keep _ (by show b ≠ w.heap.size + 1; omega)).trans ((set4_keep _ (by show b ≠ w.heap.size; omega)).trans u2)), ((set3_keep _ (by show b ≠ w.heap.size + 1; omega)).trans ((set4_keep _ (by show b ≠ w.heap.size; omega)).trans u3)), ((set3_keep _ (by show bd ≠ w.heap.size + 1; omega)).trans ((set4_keep _ (by show bd ≠ w.heap.size; omega)).trans t0)), ((set3_keep _ (by show bd ≠ w.heap.size + 1; omega)).trans ((set4_keep _ (by show bd ≠ w.heap.size; omega)).trans t1)), ((set3_keep _ (by show bd ≠ w.heap.size + 1; omega)).trans ((set4_keep _ (by show bd ≠ w.heap.size; omega)).trans t2)), ((set3_keep _ (by show bp ≠ w.heap.size + 1; omega)).trans ((set4_keep _ (by show bp ≠ w.heap.size; omega)).trans p0)), ((set3_keep _ (by show bp ≠ w.heap.size + 1; omega)).trans ((set4_keep _ (by show bp ≠ w.heap.size; omega)).trans p1)), ((set3_keep _ (by show bp ≠ w.heap.size + 1; omega)).trans ((set4_keep _ (by show bp ≠ w.heap.size; omega)).trans p2)), ((set3_keep _ (by show bp ≠ w.heap.size + 1; omega)).trans ((set4_keep _ (by show bp ≠ w.heap.size; omega)).trans p3)), ((set3_keep _ (by show bp ≠ w.heap.size + 1; omega)).trans ((set4_keep _ (by show bp ≠ w.heap.size; omega)).trans p4)), ((set3_keep _ (by show bp ≠ w.heap.size + 1; omega)).trans ((set4_keep _ (by show bp ≠ w.heap.size; omega)).trans p5)), ((set3_keep _ (by show bp ≠ w.heap.size + 1; omega)).trans ((set4_keep _ (by show bp ≠ w.heap.size; omega)).trans p6)), by simpa using zc9, by simpa using zd9, by simpa using zp9⟩
      clear hK K hHeld
      (try simp only [Act.put, List.getElem_toArray, List.getElem_cons_zero, List.getElem_cons_succ, List.setIfInBounds_toArray, List.set_cons_zero, List.set_cons_succ])
      clear a0 a1 a2 g0 g1 g2
      obtain ⟨a0, a1, a2, a3, a4, a5, a6, af⟩ := K9.out.rb.p.keep (w' := ((((((wA.setCell ⟨w.heap.size, 0, none⟩ (.string nm)).setCell ⟨w.heap.size, 1, none⟩ (.slice A1 n1 c1)).setCell ⟨w.heap.size, 2, none⟩ (.slice A2 n2 c2)).setCell ⟨w.heap.size, 3, none⟩ (.int .i64 we)).setCell ⟨w.heap.size + 1, 0, none⟩ (.int .i64 y)).setCell ⟨w.heap.size + 1, 1, none⟩ (.int .i64 m)).setCell ⟨w.heap.size + 1, 2, none⟩ (.int .i64 d)) ((set3_heap _ (by omega)).trans (set4_heap _ (by omega)))
      have g0 := af 0
      have g1 := af 1
      have g2 := af 2
      have g3 := af 3
      have g4 := af 4
      have g5 := af 5
      have g6 := af 6
      clear af
      refine wpAnyH_ready (rs := [5]) (by kernel_rfl) (by simp) ?_
      refine AllReadyH.cons rfl (fun K hK => ?_) (AllReadyH.nil)
      (try simp only [List.getElem_toArray, List.getElem_cons_zero, List.getElem_cons_succ])
      (try rw [if_pos (by kernel_rfl)])
      go_simp
      (try dsimp only)
      refine hK.out _ _ ?_ (fun hHeld => ?_)
      · exact ⟨((set7_keep _ (by show b ≠ w.heap.size + 1 + 1; omega)).trans ((set3_keep _ (by show b ≠ w.heap.size + 1; omega)).trans ((set4_keep _ (by show b ≠ w.heap.size; omega)).trans u0))), ((set7_keep _ (by show b ≠ w.heap.size + 1 + 1; omega)).trans ((set3_keep _ (by show b ≠ w.heap.size + 1; omega)).trans ((set4_keep _ (by show b ≠ w.heap.size; omega)).trans u1))), ((set7_keep _ (by show b ≠ w.heap.size + 1 + 1; omega)).trans ((set3_keep _ (by show b ≠ w.heap.size + 1; omega)).trans ((set4_keep _ (by show b ≠ w.heap.size; omega)).trans u2))), ((set7_keep _ (by show b ≠ w.heap.size + 1 + 1; omega)).trans ((set3_keep _ (by show b ≠ w.heap.size + 1; omega)).trans ((set4_keep _ (by show b ≠ w.heap.size; omega)).trans u3))), ((set7_keep _ (by show bd ≠ w.heap.size + 1 + 1; omega)).trans ((set3_keep _ (by show bd ≠ w.heap.size + 1; omega)).trans ((set4_keep _ (by show bd ≠ w.heap.size; omega)).trans t0))), ((set7_keep _ (by show bd ≠ w.heap.size + 1 + 1; omega)).trans ((set3_keep _ (by show bd ≠ w.heap.size + 1; omega)).trans ((set4_keep _ (by show bd ≠ w.heap.size; omega)).trans t1))), ((set7_keep _ (by show bd ≠ w.heap.size + 1 + 1; omega)).trans ((set3_keep _ (by show bd ≠ w.heap.size + 1; omega)).trans ((set4_keep _ (by show bd ≠ w.heap.size; omega)).trans t2))), ((set7_keep _ (by show bp ≠ w.heap.size + 1 + 1; omega)).trans ((set3_keep _ (by show bp ≠ w.heap.size + 1; omega)).trans ((set4_keep _ (by show bp ≠ w.heap.size; omega)).trans p0))), ((set7_keep _ (by show bp ≠ w.heap.size + 1 + 1; omega)).trans ((set3_keep _ (by show bp ≠ w.heap.size + 1; omega)).trans ((set4_keep _ (by show bp ≠ w.heap.size; omega)).trans p1))), ((set7_keep _ (by show bp ≠ w.heap.size + 1 + 1; omega)).trans ((set3_keep _ (by show bp ≠ w.heap.size + 1; omega)).trans ((set4_keep _ (by show bp ≠ w.heap.size; omega)).trans p2))), ((set7_keep _ (by show bp ≠ w.heap.size + 1 + 1; omega)).trans ((set3_keep _ (by show bp ≠ w.heap.size + 1; omega)).trans ((set4_keep _ (by show bp ≠ w.heap.size; omega)).trans p3))), ((set7_keep _ (by show bp ≠ w.heap.size + 1 + 1; omega)).trans ((set3_keep _ (by show bp ≠ w.heap.size + 1; omega)).trans ((set4_keep _ (by show bp ≠ w.heap.size; omega)).trans p4))), ((set7_keep _ (by show bp ≠ w.heap.size + 1 + 1; omega)).trans ((set3_keep _ (by show bp ≠ w.heap.size + 1; omega)).trans ((set4_keep _ (by show bp ≠ w.heap.size; omega)).trans p5))), ((set7_keep _ (by show bp ≠ w.heap.size + 1 + 1; omega)).trans ((set3_keep _ (by show bp ≠ w.heap.size + 1; omega)).trans ((set4_keep _ (by show bp ≠ w.heap.size; omega)).trans p6))), by simpa using zc9, by simpa using zd9, by simpa using zp9⟩
      clear hK K hHeld
      (try simp only [Act.put, List.getElem_toArray, List.getElem_cons_zero, List.getElem_cons_succ, List.setIfInBounds_toArray, List.set_cons_zero, List.set_cons_succ])
      refine wpAnyH_done (by kernel_rfl) ?_ _
      clear a0 a1 a2 a3 a4 a5 a6 g0 g1 g2 g3 g4 g5 g6 u0 u1 u2 u3 t0 t1 t2 p0 p1 p2 p3 p4 p5 p6 zc9 zd9 zp9
      have FX := Lib.hid (fin_of (y := y) (m := m) (d := d) (mo := (n1 : Int)) (te := te) (ix := (K0 : Int)) (da := da) (wk := we) (wd := wd) (cc := cc2) K9.out I9.out (by omega))
      obtain ⟨wZ, hwZ⟩ : ∃ W, fin3 wA w.heap.size nm A1 A2 L2 n1 n2 c1 c2 l2 cc2 we y m d (n1 : Int) te (K0 : Int) da we wd = W := ⟨_, rfl⟩
      rw [hwZ] at FX
      unfold fin3 at hwZ
      rw [hwZ]
      clear hwZ
      obtain ⟨zx, x0, x1, x2, x3⟩ := FX.out.xc
      obtain ⟨e0, e1, e2, -⟩ := FX.out.xd
      obtain ⟨q0, q1, q2, q3, q4, q5, q6, -⟩ := FX.out.xp
      have zy := FX.out.xd.lt
      have zz := FX.out.xp.lt
      go_wp2
      refine bodyPost_ret (v := stV nm A1 A2 L2 n1 n2 c1 c2 l2 cc2 we y m d (n1 : Int) te (K0 : Int) da we wd) ?_ rfl ⟨⟨nm, A1, A2, n1, n2, c1, c2, ms, rs, we, y, m, d, L2, l2, cc2, zs2, te, K0, da, wd, rfl, FX.out.xm, FX.out.xr, hc1, hc2, HV.out, hdo, FX.out.xz, hl, hcc, HVP.out⟩, FX.out.src, FX.out.gb⟩
      simp [results, Try.results27, stV, go_sem, *]
end Go.Proofs.Ytmbdedkelckedaa
