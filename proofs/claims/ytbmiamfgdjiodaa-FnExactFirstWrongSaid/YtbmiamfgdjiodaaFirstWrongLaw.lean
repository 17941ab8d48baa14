/- The law FnExactFirstWrong returns true: the program's FirstWrong is the reference's, and it leaves its arguments as they were. No conditions. -/
import Derived.Test.YtbmiamfgdjiodaaFirst2
import Derived.Test.YtbmiamfgdjiodaaFirst3
import Derived.Test.YtbmiamfgdjiodaaCalKit
import Derived.Test.YtbmiamfgdjiodaaOpenCal
import Derived.Deep.DeepCutAuto
namespace Go.Proofs.Ytbmiamfgdjiodaa.fnExactFirstWrong
open Go.ChangeShapes Go.WideShapes Go.ChangeAt Go.RowKit
set_option linter.unusedVariables false
set_option linter.unusedSimpArgs false
set_option maxHeartbeats 4000000 in
theorem walk (nm : ByteArray) (A A' : Option Addr) (n n' c c' : Nat) (ms : List Mth) (rs : List Rul) (cw : Int) (L : Option Addr) (l e : Nat) (zs : List Int) (mo te ix da we wd : Int) (y m d nights : Int) (w : World) (hR : CameCal w nm A A' n n' c c' ms rs cw) (hP : Came w L l e zs) (hw : Six mo te ix da we wd) (wy : (Lit.int .i64 y).wf = true) (wm : (Lit.int .i64 m).wf = true) (wd' : (Lit.int .i64 d).wf = true) (wn : (Lit.int .i64 nights).wf = true) :
    Calls Try.prog 6 #[.agg #[.string nm, .slice A n c, .slice A' n' c', .int .i64 cw], .agg #[.slice L l e, .int .i64 mo, .int .i64 te, .int .i64 ix, .int .i64 da, .int .i64 we, .int .i64 wd], .agg #[.int .i64 y, .int .i64 m, .int .i64 d], .int .i64 nights] w fun e w' => e = .returned (.bool true) ∧ Below w.heap.size w w' := by
  obtain ⟨hI, hl, -⟩ := hP
  have H := Lib.hid hR.m
  have H' := Lib.hid hR.r
  have HI := Lib.hid hI
  have hn := hR.hn
  have hn' := hR.hn'
  have HNM := Lib.hid hR.hnm
  have HGM := Lib.hid (fun j (hj : j < n) => (hR.gm j hj).1)
  have HRW := Lib.hid (fun j (hj : j < n') => (wf_lo (hR.gr j hj).1).1)
  have F0 := Lib.hid (FW.start (L := L) (l := l) (e := e) w 25 58 48 nm A A' n n' c c' cw mo te ix da we wd y m d)
  have hmo := (wf_lo hw.1).2
  have CS := Lib.hid (fun (W : World) (hb : Below w.heap.size w W) => szCalendar_any nm A A' n n' c c' w.heap.size ms cw 1048576 W (Tri.below H.out hb) hb.size (by omega) (by omega) hn hn' HNM.out HGM.out)
  clear hR hI hw wy wm wd' wn
  go_enter Try.func6, Try.ntmps6
  go_wp2_with fail
  go_at_call 7
  refine (CS.out _ F0.out.bl).mono ?_
  rintro e1 w1 ⟨r, rfl, hb1, hr⟩
  have F1 := Lib.hid (F0.out.call hb1)
  clear hb1
  have HR := Lib.hid hr
  clear hr
  rcases HR.out with hr | hr
  · subst hr
    go_wp2
    go_ret
    exact ⟨rfl, F1.out.bl⟩
  obtain ⟨r0, r1, -, hcn, hcn', -⟩ := hr
  have q2 : ¬ (r < 0) := by omega
  obtain ⟨p0, p1, p2, p3, p4, p5, p6, -⟩ := F1.out.wk
  have SP := Lib.hid (fun (W : World) => szPerpetual_any L l e mo te ix da we wd r W r0 r1 hl)
  go_wp2_with fail
  go_at_call 28
  refine (SP.out _).mono ?_
  rintro e1 W1 ⟨rfl, hb1⟩
  have G1 := Lib.hid (F1.out.call hb1)
  clear hb1 p0 p1 p2 p3 p4 p5 p6
  by_cases hle : r < (l : Int)
  · rw [if_pos hle]
    go_wp2
    go_ret
    exact ⟨rfl, G1.out.bl⟩
  rw [if_neg hle]
  have hl2 : l ≤ 1048576 := by omega
  have q3 : ¬ (r - (l : Int) < 0) := by omega
  obtain ⟨va, vb, hf⟩ := fwT_form nm n n' ms rs cw zs l mo te ix da we wd y m d nights
  have c1 := fun (W : World) (g1 g1' : Option Addr) (c c' : Nat) (L : Option Addr) (e : Nat) (h : Months W W.heap.size g1 n ms) (h' : Rules W W.heap.size g1' n' rs) (hI : Ints W W.heap.size L l zs) => specFirstWrong_any nm g1 g1' L n n' c c' l e W.heap.size ms rs cw zs mo te ix da we wd y m d nights W h h' hI (Nat.le_refl _) hcn hcn' hl2 hmo HRW.out
  have c2 := fun (W : World) (g1 g1' : Option Addr) (L : Option Addr) (e : Nat) (h : Months W W.heap.size g1 n ms) (h' : Rules W W.heap.size g1' n' rs) (hI : Ints W W.heap.size L l zs) => FirstWrong_any nm g1 g1' L n n' n n' l e W.heap.size ms rs cw zs mo te ix da we wd y m d nights W h h' hI (Nat.le_refl _) (Nat.le_refl _) hcn hcn' hl2 hmo
  simp only [hf] at c1 c2
  have C1 := Lib.hid c1
  have C2 := Lib.hid c2
  have CT := Lib.hid (fun (W : World) (hb : Below w.heap.size w W) => toCalendar_any nm A A' n n' c c' w.heap.size ms rs cw W (Tri.below H.out hb) (Tri.below H'.out hb) hb.size hcn hcn')
  have PT := Lib.hid (fun (W : World) (hb : Below w.heap.size w W) => (toPerpetual_any L l e w.heap.size zs mo te ix da we wd W (Ints.below HI.out hb) hb.size hl2).mono (fun e1 w1 (h : _ ∧ _ ∧ _) => (show ∃ L4, e1 = .returned (.agg #[.slice L4 l l, .int .i64 mo, .int .i64 te, .int .i64 ix, .int .i64 da, .int .i64 we, .int .i64 wd]) ∧ Own w1 W.heap.size L4 l l zs ∧ Below W.heap.size W w1 from ⟨_, h.1, h.2.1, h.2.2⟩)))
  clear c1 c2 hf CS SP
  go_upto_region 8 with fail
  go_cut [10, 11] (fun a b wx => a = .int .i64 va ∧ b = .int .i64 vb ∧ FW w wx (w.heap.size + 1) nm A A' n n' c c' cw (.slice L l e) mo te ix da we wd y m d)
  case first =>
    obtain ⟨-, u0, u1, u2, u3⟩ := G1.out.cal
    obtain ⟨p0, p1, p2, p3, p4, p5, p6, -⟩ := G1.out.wk
    obtain ⟨t0, t1, t2, -⟩ := G1.out.dt
    have z2 := G1.out.dt.lt
    have z0 : w.heap.size < W1.heap.size := by omega
    have z1 : w.heap.size + 1 < W1.heap.size := by omega
    have yb := G1.out.bl
    have yr := Below.refl W1.heap.size W1
    go_region_held3 (fun w' => w'.cell? ⟨w.heap.size, 0, none⟩ = some (.string nm) ∧ w'.cell? ⟨w.heap.size, 1, none⟩ = some (.slice A n c) ∧ w'.cell? ⟨w.heap.size, 2, none⟩ = some (.slice A' n' c') ∧ w'.cell? ⟨w.heap.size, 3, none⟩ = some (.int .i64 cw) ∧ w'.cell? ⟨w.heap.size + 1, 0, none⟩ = some (.slice L l e) ∧ w'.cell? ⟨w.heap.size + 1, 1, none⟩ = some (.int .i64 mo) ∧ w'.cell? ⟨w.heap.size + 1, 2, none⟩ = some (.int .i64 te) ∧ w'.cell? ⟨w.heap.size + 1, 3, none⟩ = some (.int .i64 ix) ∧ w'.cell? ⟨w.heap.size + 1, 4, none⟩ = some (.int .i64 da) ∧ w'.cell? ⟨w.heap.size + 1, 5, none⟩ = some (.int .i64 we) ∧ w'.cell? ⟨w.heap.size + 1, 6, none⟩ = some (.int .i64 wd) ∧ w'.cell? ⟨w.heap.size + 1 + 1, 0, none⟩ = some (.int .i64 y) ∧ w'.cell? ⟨w.heap.size + 1 + 1, 1, none⟩ = some (.int .i64 m) ∧ w'.cell? ⟨w.heap.size + 1 + 1, 2, none⟩ = some (.int .i64 d) ∧ w.heap.size < w'.heap.size ∧ w.heap.size + 1 < w'.heap.size ∧ w.heap.size + 1 + 1 < w'.heap.size ∧ Below w.heap.size w w' ∧ Below W1.heap.size W1 w') (first | ((try go_split_ands); (try dsimp only); refine ⟨?_, ?_, ?_, ?_, ?_, ?_, ?_, ?_, ?_, ?_, ?_, ?_, ?_, ?_, ?_, ?_, ?_, ?_, ?_⟩ <;> first | (exact cell_call (by assumption) (by assumption) (by assumption)) | (exact lt_call (by assumption) (by assumption)) | (exact below_call' (by assumption) (by assumption)) | (exact Below.drew (by assumption)) | (with_reducible assumption) | (simp; done) | (simp [*]; done) | ((repeat (first | with_reducible exact Below.refl _ _ | with_reducible refine below_alloc ?_ _ | with_reducible refine below_drewN ?_ _ | with_reducible refine Below.drew ?_ | ((with_reducible refine below_set ?_ ?_ _); rotate_left; (focus (first | (simp; done) | (simp; omega) | omega))) | with_reducible refine below_call ?_ (by assumption))); done) | omega | (simp; omega) | (simp [go_sem]; done) | (simp [go_sem, *]; done))) (first | (go_at_call 9; go_split_ands; refine (CT.out _ (by assumption)).mono ?_; rintro e1 w3 ⟨g3, k3, rfl, ho3, hb3⟩; have O3 := Lib.hid ho3; clear ho3) | (go_at_call 30; go_split_ands; refine (PT.out _ (by assumption)).mono ?_; rintro e1 w4 ⟨L4, rfl, ho4, hb4⟩; have O4 := Lib.hid ho4; clear ho4) | (go_at_call 23; refine (toDate_any _ _ _ _).mono ?_; rintro e1 w5 ⟨rfl, hb5⟩) | (go_at_call 29; go_split_ands; refine (C1.out _ _ _ _ _ _ _ (Own2.months (by first | exact O3.out | exact O3.out.call hb4 | exact O3.out.call hb5 | exact (O3.out.call hb4).call hb5 | exact (O3.out.call hb5).call hb4)) (Own2.rules (by first | exact O3.out | exact O3.out.call hb4 | exact O3.out.call hb5 | exact (O3.out.call hb4).call hb5 | exact (O3.out.call hb5).call hb4)) (Own.ints (by first | exact O4.out | exact Own.call O4.out hb3 | exact Own.call O4.out hb5 | exact Own.call (Own.call O4.out hb3) hb5 | exact Own.call (Own.call O4.out hb5) hb3) (Nat.le_refl _))).mono ?_; rintro e1 w6 ⟨rfl, hb6⟩))
    go_split_ands
    have BL : Below W1.heap.size W1 w6 := by assumption
    go_wp2_with fail
    go_meet
    exact ⟨rfl, rfl, G1.out.call BL⟩
  case rest =>
    obtain ⟨rfl, rfl, G2'⟩ := hcut
    have G2 := Lib.hid G2'
    clear G2' G1
    obtain ⟨-, u0, u1, u2, u3⟩ := G2.out.cal
    go_wp2_with fail
    go_at_call 9
    refine (CT.out _ G2.out.bl).mono ?_
    rintro e1 w3 ⟨g3, k3, rfl, ho3, hb3⟩
    have O3 := Lib.hid ho3
    have G3 := Lib.hid (G2.out.call hb3)
    clear ho3 hb3 u0 u1 u2 u3
    go_upto_region 10 with fail
    obtain ⟨W4, hW4⟩ : ∃ W, w3.alloc (.cells #[.string nm, .slice (some ⟨g3, 0, none⟩) n n, .slice (some ⟨k3, 0, none⟩) n' n', .int .i64 cw] 33) = W := ⟨_, rfl⟩
    have ya : Below w3.heap.size w3 W4 := by rw [← hW4]; exact (Below.refl _ _).alloc (Nat.le_refl _) _
    have KC4 := Lib.hid (hW4 ▸ cal_new w3 33 nm (some ⟨g3, 0, none⟩) (some ⟨k3, 0, none⟩) n n' n n' cw)
    have G3' := Lib.hid (G3.out.call ya)
    have O3' := Lib.hid (O3.out.call ya)
    rw [hW4]
    clear hW4 ya O3 G3
    obtain ⟨p0, p1, p2, p3, p4, p5, p6, -⟩ := G3'.out.wk
    go_wp2_with fail
    go_at_call 30
    refine (PT.out _ G3'.out.bl).mono ?_
    rintro e1 w4 ⟨L4, rfl, ho4, hb4⟩
    have G4 := Lib.hid (G3'.out.call hb4)
    have O3'' := Lib.hid (O3'.out.call hb4)
    have KC := Lib.hid (KC4.out.call hb4)
    have O4 := Lib.hid ho4
    have hz4 := hb4.size
    clear ho4 hb4 O3' KC4 G3' p0 p1 p2 p3 p4 p5 p6
    go_upto_region 11 with fail
    obtain ⟨W5, hW5⟩ : ∃ W, w4.alloc (.cells #[.slice L4 l l, .int .i64 mo, .int .i64 te, .int .i64 ix, .int .i64 da, .int .i64 we, .int .i64 wd] 50) = W := ⟨_, rfl⟩
    have ya : Below w4.heap.size w4 W5 := by rw [← hW5]; exact (Below.refl _ _).alloc (Nat.le_refl _) _
    have KP := Lib.hid (hW5 ▸ work_new w4 50 (.slice L4 l l) mo te ix da we wd)
    have KC5 := Lib.hid (KC.out.call ya)
    have G5 := Lib.hid (G4.out.call ya)
    have O35 := Lib.hid (O3''.out.call ya)
    have O45 := Lib.hid (Own.call O4.out ya)
    rw [hW5]
    clear hW5 ya KC G4 O3'' O4
    go_cut [14, 15] (fun a b wx => a = .int .i64 va ∧ b = .int .i64 vb ∧ Below W5.heap.size W5 wx)
    case first =>
      obtain ⟨zc, u0, u1, u2, u3⟩ := KC5.out
      have zp := KP.out.lt
      obtain ⟨p0, p1, p2, p3, p4, p5, p6, -⟩ := KP.out
      obtain ⟨t0, t1, t2, -⟩ := G5.out.dt
      have z2 := G5.out.dt.lt
      have yb := G5.out.bl
      have yr := Below.refl W5.heap.size W5
      go_region_held3 (fun w' => w'.cell? ⟨w3.heap.size, 0, none⟩ = some (.string nm) ∧ w'.cell? ⟨w3.heap.size, 1, none⟩ = some (.slice (some ⟨g3, 0, none⟩) n n) ∧ w'.cell? ⟨w3.heap.size, 2, none⟩ = some (.slice (some ⟨k3, 0, none⟩) n' n') ∧ w'.cell? ⟨w3.heap.size, 3, none⟩ = some (.int .i64 cw) ∧ w'.cell? ⟨w4.heap.size, 0, none⟩ = some (.slice L4 l l) ∧ w'.cell? ⟨w4.heap.size, 1, none⟩ = some (.int .i64 mo) ∧ w'.cell? ⟨w4.heap.size, 2, none⟩ = some (.int .i64 te) ∧ w'.cell? ⟨w4.heap.size, 3, none⟩ = some (.int .i64 ix) ∧ w'.cell? ⟨w4.heap.size, 4, none⟩ = some (.int .i64 da) ∧ w'.cell? ⟨w4.heap.size, 5, none⟩ = some (.int .i64 we) ∧ w'.cell? ⟨w4.heap.size, 6, none⟩ = some (.int .i64 wd) ∧ w'.cell? ⟨w.heap.size + 1 + 1, 0, none⟩ = some (.int .i64 y) ∧ w'.cell? ⟨w.heap.size + 1 + 1, 1, none⟩ = some (.int .i64 m) ∧ w'.cell? ⟨w.heap.size + 1 + 1, 2, none⟩ = some (.int .i64 d) ∧ w3.heap.size < w'.heap.size ∧ w4.heap.size < w'.heap.size ∧ w.heap.size + 1 + 1 < w'.heap.size ∧ Below w.heap.size w w' ∧ Below W5.heap.size W5 w') (first | ((try go_split_ands); (try dsimp only); refine ⟨?_, ?_, ?_, ?_, ?_, ?_, ?_, ?_, ?_, ?_, ?_, ?_, ?_, ?_, ?_, ?_, ?_, ?_, ?_⟩ <;> first | (exact cell_call (by assumption) (by assumption) (by assumption)) | (exact lt_call (by assumption) (by assumption)) | (exact below_call' (by assumption) (by assumption)) | (exact Below.drew (by assumption)) | (with_reducible assumption) | (simp; done) | (simp [*]; done) | ((repeat (first | with_reducible exact Below.refl _ _ | with_reducible refine below_alloc ?_ _ | with_reducible refine below_drewN ?_ _ | with_reducible refine Below.drew ?_ | ((with_reducible refine below_set ?_ ?_ _); rotate_left; (focus (first | (simp; done) | (simp; omega) | omega))) | with_reducible refine below_call ?_ (by assumption))); done) | omega | (simp; omega) | (simp [go_sem]; done) | (simp [go_sem, *]; done))) (first | (go_at_call 23; refine (toDate_any _ _ _ _).mono ?_; rintro e1 w5 ⟨rfl, hb5⟩) | (go_at_call 31; go_split_ands; refine (C2.out _ _ _ _ _ (Own2.months (O35.out.call (by assumption))) (Own2.rules (O35.out.call (by assumption))) (Own.ints (Own.call O45.out (by assumption)) (Nat.le_refl _))).mono ?_; rintro e1 w6 ⟨rfl, hb6⟩))
      go_split_ands
      have BL : Below W5.heap.size W5 w6 := by assumption
      go_wp2_with fail
      go_meet
      exact ⟨rfl, rfl, BL⟩
    case rest =>
      obtain ⟨rfl, rfl, BL⟩ := hcut
      have KC6 := Lib.hid (KC5.out.call BL)
      have KP6 := Lib.hid (KP.out.call BL)
      have G6 := Lib.hid (G5.out.call BL)
      have O36 := Lib.hid (O35.out.call BL)
      have O46 := Lib.hid (Own.call O45.out BL)
      clear BL KC5 KP G5 O35 O45
      go_wp2_with fail
      obtain ⟨W6, hW6⟩ : ∃ W, wc = W := ⟨_, rfl⟩
      subst hW6
      obtain ⟨zc, u0, u1, u2, u3⟩ := KC6.out
      obtain ⟨zd, d0, d1, d2, d3⟩ := G6.out.cal
      have yb := G6.out.bl
      have yr := Below.refl wc.heap.size wc
      go_region_held3 (fun w' => w'.cell? ⟨w3.heap.size, 0, none⟩ = some (.string nm) ∧ w'.cell? ⟨w3.heap.size, 1, none⟩ = some (.slice (some ⟨g3, 0, none⟩) n n) ∧ w'.cell? ⟨w3.heap.size, 2, none⟩ = some (.slice (some ⟨k3, 0, none⟩) n' n') ∧ w'.cell? ⟨w3.heap.size, 3, none⟩ = some (.int .i64 cw) ∧ w'.cell? ⟨w.heap.size, 0, none⟩ = some (.string nm) ∧ w'.cell? ⟨w.heap.size, 1, none⟩ = some (.slice A n c) ∧ w'.cell? ⟨w.heap.size, 2, none⟩ = some (.slice A' n' c') ∧ w'.cell? ⟨w.heap.size, 3, none⟩ = some (.int .i64 cw) ∧ w3.heap.size < w'.heap.size ∧ w.heap.size < w'.heap.size ∧ Below w.heap.size w w' ∧ Below wc.heap.size wc w') (first | ((try go_split_ands); (try dsimp only); refine ⟨?_, ?_, ?_, ?_, ?_, ?_, ?_, ?_, ?_, ?_, ?_, ?_⟩ <;> first | (exact cell_call (by assumption) (by assumption) (by assumption)) | (exact lt_call (by assumption) (by assumption)) | (exact below_call' (by assumption) (by assumption)) | (exact Below.drew (by assumption)) | (with_reducible assumption) | (simp; done) | (simp [*]; done) | ((repeat (first | with_reducible exact Below.refl _ _ | with_reducible refine below_alloc ?_ _ | with_reducible refine below_drewN ?_ _ | with_reducible refine Below.drew ?_ | ((with_reducible refine below_set ?_ ?_ _); rotate_left; (focus (first | (simp; done) | (simp; omega) | omega))) | with_reducible refine below_call ?_ (by assumption))); done) | omega | (simp; omega) | (simp [go_sem]; done) | (simp [go_sem, *]; done))) (first | (go_at_call 9; go_split_ands; refine (CT.out _ (by assumption)).mono ?_; rintro e1 w3 ⟨g3, k3, rfl, ho3, hb3⟩; have O3 := Lib.hid ho3; clear ho3) | (go_at_call 12; go_split_ands; refine (eqCalendar_same _ _ _ _ _ _ _ _ _ _ _ _ _ ms rs _ _ (Own2.months (O36.out.call (by assumption))) (Own2.rules (O36.out.call (by assumption))) (Own2.months O3.out) (Own2.rules O3.out) (Nat.le_refl _) (Nat.le_refl _) hn hn').mono ?_; rintro e1 w8 ⟨rfl, hb8⟩))
      go_split_ands
      have BL : Below wc.heap.size wc w8 := by assumption
      have KP8 := Lib.hid (KP6.out.call BL)
      have G8 := Lib.hid (G6.out.call BL)
      have O48 := Lib.hid (Own.call O46.out BL)
      clear BL yr yb u0 u1 u2 u3 d0 d1 d2 d3 zc zd
      go_wp2_with fail
      have zp := KP8.out.lt
      obtain ⟨p0, p1, p2, p3, p4, p5, p6, -⟩ := KP8.out
      have zq := G8.out.wk.lt
      obtain ⟨q0, q1, q3', q4, q5, q6, q7, -⟩ := G8.out.wk
      have yb := G8.out.bl
      have yr := Below.refl w8.heap.size w8
      go_region_held3 (fun w' => w'.cell? ⟨w4.heap.size, 0, none⟩ = some (.slice L4 l l) ∧ w'.cell? ⟨w4.heap.size, 1, none⟩ = some (.int .i64 mo) ∧ w'.cell? ⟨w4.heap.size, 2, none⟩ = some (.int .i64 te) ∧ w'.cell? ⟨w4.heap.size, 3, none⟩ = some (.int .i64 ix) ∧ w'.cell? ⟨w4.heap.size, 4, none⟩ = some (.int .i64 da) ∧ w'.cell? ⟨w4.heap.size, 5, none⟩ = some (.int .i64 we) ∧ w'.cell? ⟨w4.heap.size, 6, none⟩ = some (.int .i64 wd) ∧ w'.cell? ⟨w.heap.size + 1, 0, none⟩ = some (.slice L l e) ∧ w'.cell? ⟨w.heap.size + 1, 1, none⟩ = some (.int .i64 mo) ∧ w'.cell? ⟨w.heap.size + 1, 2, none⟩ = some (.int .i64 te) ∧ w'.cell? ⟨w.heap.size + 1, 3, none⟩ = some (.int .i64 ix) ∧ w'.cell? ⟨w.heap.size + 1, 4, none⟩ = some (.int .i64 da) ∧ w'.cell? ⟨w.heap.size + 1, 5, none⟩ = some (.int .i64 we) ∧ w'.cell? ⟨w.heap.size + 1, 6, none⟩ = some (.int .i64 wd) ∧ w4.heap.size < w'.heap.size ∧ w.heap.size + 1 < w'.heap.size ∧ Below w.heap.size w w' ∧ Below w8.heap.size w8 w') (first | ((try go_split_ands); (try dsimp only); refine ⟨?_, ?_, ?_, ?_, ?_, ?_, ?_, ?_, ?_, ?_, ?_, ?_, ?_, ?_, ?_, ?_, ?_, ?_⟩ <;> first | (exact cell_call (by assumption) (by assumption) (by assumption)) | (exact lt_call (by assumption) (by assumption)) | (exact below_call' (by assumption) (by assumption)) | (exact Below.drew (by assumption)) | (with_reducible assumption) | (simp; done) | (simp [*]; done) | ((repeat (first | with_reducible exact Below.refl _ _ | with_reducible refine below_alloc ?_ _ | with_reducible refine below_drewN ?_ _ | with_reducible refine Below.drew ?_ | ((with_reducible refine below_set ?_ ?_ _); rotate_left; (focus (first | (simp; done) | (simp; omega) | omega))) | with_reducible refine below_call ?_ (by assumption))); done) | omega | (simp; omega) | (simp [go_sem]; done) | (simp [go_sem, *]; done))) (first | (go_at_call 30; go_split_ands; refine (PT.out _ (by assumption)).mono ?_; rintro e1 w4 ⟨L4, rfl, ho4, hb4⟩; have O4 := Lib.hid ho4; clear ho4) | (go_at_call 25; go_split_ands; refine (eqPerpetual_same _ _ _ _ _ _ _ _ zs mo te ix da we wd _ (Own.ints (Own.call O48.out (by assumption)) (Nat.le_refl _)) (Own.ints O4.out (Nat.le_refl _)) (Nat.le_refl _) (Nat.le_refl _) hl hl).mono ?_; rintro e1 w9 ⟨rfl, hb9⟩))
      go_split_ands
      have BL : Below w.heap.size w w9 := by assumption
      go_wp2
      go_ret
      exact ⟨rfl, BL⟩
set_option maxRecDepth 100000 in
theorem lifted (os : Os) (started : os.Started) (H : Type) (enc : TypeId × Value → H) :
    ReturnsInHanded {} Try.checked os 6 .any (Rows.fnExactFirstWrongSpec.pre6 enc Try.prog Try.f6 Rows.fnExactFirstWrongRow.domain false) (Rows.fnExactFirstWrongSpec.post enc Try.prog Try.f6 false true false false) := by
  refine returnsInHanded_of_change (C := Try.checked) own started (by kernel_rfl) Try.func6
    (ChangeSpec.witness6 (enc := enc) (C := Try.checked) false ⟨#[], #[.agg #[.string ⟨#[]⟩, .slice none 0 0, .slice none 0 0, .int .i64 0], .agg #[.slice none 0 0, .int .i64 0, .int .i64 0, .int .i64 0, .int .i64 0, .int .i64 0, .int .i64 0], .agg #[.int .i64 0, .int .i64 0, .int .i64 0], .int .i64 0], []⟩ 8 (by kernel_rfl) (by kernel_rfl) (by kernel_rfl) (by kernel_rfl)) ?_
  intro W base args ds gs before hval0 hW hcnd _
  have hval : ∀ (j : Nat) t v, Try.f6.params[j]? = some t → args[j]? = some v → Value.okWide Try.prog W .any base t v := hval0
  have hW' := hW
  obtain ⟨p, q, hA0, hV, rfl, hfz, hnd⟩ := hW
  have hA : DataW.TrodAll enc Try.prog W 0 (fun _ => true) true Try.f6.params.toList args.toList ds p := hA0
  rw [Try.params6] at hA hval
  obtain ⟨v0, vs0, d0, ds0, p0, q0, hargs, rfl, rfl, h0, r0⟩ := trodAll_cons hA
  obtain ⟨v1, vs1, d1, ds1, p1, q1, rfl, rfl, rfl, h1, r1⟩ := trodAll_cons r0
  obtain ⟨v2, vs2, d2, ds2, p2, q2, rfl, rfl, rfl, h2, r2⟩ := trodAll_cons r1
  obtain ⟨v3, vs3, d3, ds3, p3, q3, rfl, rfl, rfl, h3, r3⟩ := trodAll_cons r2
  obtain ⟨rfl, rfl, rfl⟩ := trodAll_nil r3
  obtain rfl : args = #[v0, v1, v2, v3] := by cases args; simp_all
  obtain ⟨rfl, rfl⟩ := trodVars_none hV
  have k0 := h0
  have lt0 : ∀ x ∈ p0, x.block < W.heap.size := by obtain ⟨m, hm⟩ := k0; exact DataW.trod_lt m _ _ _ hm
  have k1 := h1
  have lt1 : ∀ x ∈ p1, x.block < W.heap.size := by obtain ⟨m, hm⟩ := k1; exact DataW.trod_lt m _ _ _ hm
  have k2 := h2
  have lt2 : ∀ x ∈ p2, x.block < W.heap.size := by obtain ⟨m, hm⟩ := k2; exact DataW.trod_lt m _ _ _ hm
  have k3 := h3
  have lt3 : ∀ x ∈ p3, x.block < W.heap.size := by obtain ⟨m, hm⟩ := k3; exact DataW.trod_lt m _ _ _ hm
  obtain ⟨nm0, Ac0, Ar0, nc0, nr0, cc0, cr0, mc0, rc0, wc0, rfl, R0⟩ := open_Calendar (hval 0 25 v0 rfl rfl) h0
  obtain ⟨A1, l1, c1, z1, mo1, te1, at1, da1, we1, wd1, rfl, R1, hw1⟩ := open_Perpetual (hval 1 58 v1 rfl rfl) h1
  obtain ⟨n2, m2, z2, rfl, wn2, wm2, wz2⟩ := open_Date (hval 2 48 v2 rfl rfl) h2
  obtain ⟨a3, rfl, _, _, wa3⟩ := open_int Try.underlying2 (hval 3 2 v3 rfl rfl) h3
  clear hA0 hval0
  refine (walk nm0 Ac0 Ar0 nc0 nr0 cc0 cr0 mc0 rc0 wc0 A1 l1 c1 z1 mo1 te1 at1 da1 we1 wd1 n2 m2 z2 a3 W R0 R1 hw1 wn2 wm2 wz2 wa3).mono fun e W' ⟨he, bel⟩ => ?_
  subst he
  exact ⟨_, rfl, _, _, _, [], _, [], hW', trodAll_mk1 (shut_bool Try.underlying4 _), (trodAll_cons_mk (Below.trod laidOut (by kernel_rfl) (of_decide_eq_true (by kernel_rfl)) k0 bel lt0) (trodAll_cons_mk (Below.trod laidOut (by kernel_rfl) (of_decide_eq_true (by kernel_rfl)) k1 bel lt1) (trodAll_cons_mk (Below.trod laidOut (by kernel_rfl) (of_decide_eq_true (by kernel_rfl)) k2 bel lt2) (trodAll_cons_mk (Below.trod laidOut (by kernel_rfl) (of_decide_eq_true (by kernel_rfl)) k3 bel lt3) trodAll_mk0)))), rfl, bel.frame _, fun h => by cases h⟩
theorem over : Rows.fnExactFirstWrongRow.holds Try.pinned (OpenSpec.ofChange Rows.fnExactFirstWrongSpec) :=
  OpenClaim.holds_of_wide 6 Try.f6 rfl rfl rfl rfl rfl rfl rfl ⟨rfl, rfl, rfl, rfl, rfl⟩ rfl rfl rfl rfl rfl (by kernel_rfl) Try.func6 (by kernel_rfl)
    (of_decide_eq_true (by kernel_rfl)) (by unfold Func.isWrapper; first | (rw [if_pos (by decide +kernel)]; kernel_rfl) | (rw [if_neg (by decide +kernel)]; exact ⟨rfl, rfl⟩))
    (fun os started H enc _ => lifted os started H enc)
theorem proved : Rows.FnExactFirstWrongSaid := over
#print axioms proved
end Go.Proofs.Ytbmiamfgdjiodaa.fnExactFirstWrong
