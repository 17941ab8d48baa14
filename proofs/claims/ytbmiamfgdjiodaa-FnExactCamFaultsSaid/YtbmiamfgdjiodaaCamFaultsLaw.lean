/- The law FnExactCamFaults returns true: the program's CamFaults is the reference's, it leaves its arguments as they were and gives memory of its own. No conditions. -/
import Derived.Test.YtbmiamfgdjiodaaFltKit
import Derived.Test.YtbmiamfgdjiodaaResKit
import Derived.Test.YtbmiamfgdjiodaaCalKit
import Derived.Test.YtbmiamfgdjiodaaOpenCal
namespace Go.Proofs.Ytbmiamfgdjiodaa.fnExactCamFaults
open Go.ChangeShapes Go.WideShapes Go.ChangeAt Go.RowKit
set_option linter.unusedVariables false
set_option linter.unusedSimpArgs false
/-- the box of the argument: a calendar -/
structure LC (w W : World) (nm : ByteArray) (A A' : Option Addr) (n n' c c' : Nat) (cw : Int) : Prop where
  cal : CalAt W w.heap.size nm A A' n n' c c' cw
  bl : Below w.heap.size w W
section
variable {w W W' : World} {nm : ByteArray} {A A' : Option Addr} {n n' c c' a b : Nat} {cw : Int}
theorem LC.outer (h : LC w W nm A A' n n' c c' cw) (ho : Outer W W' a b) (ha : w.heap.size + 1 ≤ a) : LC w W' nm A A' n n' c c' cw := by
  have h0 := ho.block _ h.cal.lt (.inl (by omega))
  have hc : ∀ o, W'.cell? ⟨w.heap.size, o, none⟩ = W.cell? ⟨w.heap.size, o, none⟩ := fun o => World.cell?_of_block (w := W) h0
  exact ⟨⟨Nat.lt_of_lt_of_le h.cal.lt ho.size, (hc 0).trans h.cal.c0, (hc 1).trans h.cal.c1, (hc 2).trans h.cal.c2, (hc 3).trans h.cal.c3⟩, ho.below h.bl (by omega)⟩
theorem LC.call (h : LC w W nm A A' n n' c c' cw) (hb : Below W.heap.size W W') : LC w W' nm A A' n n' c c' cw := ⟨h.cal.call hb, h.bl.trans (hb.mono h.bl.size)⟩
theorem LC.start (w : World) (t : TypeId) (nm : ByteArray) (A A' : Option Addr) (n n' c c' : Nat) (cw : Int) :
    LC w (w.alloc (.cells #[.string nm, .slice A n c, .slice A' n' c', .int .i64 cw] t)) nm A A' n n' c c' cw := ⟨cal_new w t nm A A' n n' c c' cw, alb _ _⟩
end
/-- a row of faults in blocks from lo to hi -/
structure FI (W : World) (lo hi : Nat) (A : Option Addr) (n c : Nat) (fs : List Flt) : Prop where
  own : OwnF W lo A n c fs
  up : ∀ ad, A = some ad → ad.block < hi
  hh : hi ≤ W.heap.size
section
variable {W W' : World} {lo hi n c a b : Nat} {A : Option Addr} {fs gs : List Flt}
theorem FI.outer (h : FI W lo hi A n c fs) (ho : Outer W W' a b) (hd : hi ≤ a ∨ b ≤ lo) : FI W' lo hi A n c fs := by
  have h3 := h.hh
  refine ⟨⟨h.own.1, ?_⟩, h.up, Nat.le_trans h3 ho.size⟩
  rcases h.own.2 with h0 | ⟨g, cap, cur, e, hb, hk, hr⟩
  · exact .inl h0
  · have hg : g < hi := by injection e with e1; exact h.up _ e1
    exact .inr ⟨g, cap, cur, e, hb, by rw [ho.block g (by omega) (by omega)]; exact hk, hr⟩
theorem FI.call (h : FI W lo hi A n c fs) (hb : Below W.heap.size W W') : FI W' lo hi A n c fs := h.outer (Outer.of_below (lo := hi) (hi := hi) hb) (.inl (Nat.le_refl _))
theorem FI.mark (h : FI W lo hi A n c fs) (h' : OwnF W' lo A n c gs) (hg : W.grownBy W' (Value.slice A n c).ownBlock) : FI W' lo hi A n c gs := ⟨h', h.up, Nat.le_trans h.hh hg.size⟩
theorem Outer.of_fi (h : FI W lo hi A n c fs) (hg : W.grownBy W' (Value.slice A n c).ownBlock) : Outer W W' lo hi := by
  refine ⟨hg.os, hg.tape, hg.output, hg.size, fun b hb ho => hg.block b hb (fun e => ?_)⟩
  rcases h.own.form with ⟨rfl, -, -⟩ | ⟨g, rfl, h1, -, -⟩
  · simp [Value.ownBlock] at e
  · have h2 := h.up _ rfl
    simp [Value.ownBlock] at e
    dsimp only at h2
    omega
theorem newFC_len {w w' : World} {e : Ending} {cd : Int} {mm : Nat} (h : NewFC w (fs, cd) e w') (hm : fs.length = mm) : ∃ X c, e = .returned (.tuple #[.slice X mm c, .int .i64 cd]) ∧ FI w' w.heap.size w'.heap.size X mm c fs ∧ Below w.heap.size w w' := by
  obtain ⟨X, m, c, he, ho, hb⟩ := h
  have hl := ho.len
  have e2 : m = mm := hl.symm.trans hm
  subst e2
  refine ⟨X, c, he, ⟨ho, fun ad e => ?_, Nat.le_refl _⟩, hb⟩
  rcases ho.form with ⟨h0, -, -⟩ | ⟨g, h0, h1, h2, -⟩
  · rw [h0] at e; cases e
  · rw [h0] at e
    injection e with e
    rw [← e]; exact h2
end
set_option maxRecDepth 8000 in
set_option maxHeartbeats 8000000 in
theorem walk (nm : ByteArray) (A A' : Option Addr) (n n' c c' : Nat) (ms : List Mth) (rs : List Rul) (cw : Int) (L : Option Addr) (l e : Nat) (zs : List Int) (f t : Int) (w : World) (hR : CameCal w nm A A' n n' c c' ms rs cw) (hP : Came w L l e zs) (wf : (Lit.int .i64 f).wf = true) (wt : (Lit.int .i64 t).wf = true) :
    Calls Try.prog 4 #[.agg #[.string nm, .slice A n c, .slice A' n' c', .int .i64 cw], .slice L l e, .int .i64 f, .int .i64 t] w fun e w' => e = .returned (.bool true) ∧ Below w.heap.size w w' := by
  obtain ⟨hI, hl9, -⟩ := hP
  have H := Lib.hid hR.m
  have H' := Lib.hid hR.r
  have HI := Lib.hid hI
  have hn := hR.hn
  have hn' := hR.hn'
  have HNM := Lib.hid hR.hnm
  have HGM := Lib.hid (fun j (hj : j < n) => (hR.gm j hj).1)
  have HRW := Lib.hid (fun j (hj : j < n') => (wf_lo (hR.gr j hj).1).1)
  have F0 := Lib.hid (LC.start w 25 nm A A' n n' c c' cw)
  have CS := Lib.hid (fun (W : World) (hb : Below w.heap.size w W) => szCalendar_any nm A A' n n' c c' w.heap.size ms cw 1048576 W (Tri.below H.out hb) hb.size (by omega) (by omega) hn hn' HNM.out HGM.out)
  clear hR hI wf wt
  by_cases hle : (1048576 : Int) < (l : Int)
  · go_enter Try.func4, Try.ntmps4
    go_wp2
    go_ret
    exact ⟨rfl, F0.out.bl⟩
  · have hl2 : l ≤ 1048576 := by omega
    go_enter Try.func4, Try.ntmps4
    go_wp2_with fail
    go_at_call 7
    refine (CS.out _ F0.out.bl).mono ?_
    rintro e1 W1 ⟨r, rfl, hb1, hr⟩
    have LD1 := Lib.hid (F0.out.call hb1)
    have LDL : Hid (w.heap.size + 1 ≤ W1.heap.size) := Lib.hid (by have := LD1.out.cal.lt; omega)
    clear hb1
    have HR := Lib.hid hr
    clear hr
    rcases HR.out with hr | hr
    · subst hr
      go_wp2
      go_ret
      exact ⟨rfl, LD1.out.bl⟩
    obtain ⟨r00, r01, -, hcn, hcn', -⟩ := hr
    have q2 : ¬ (r < 0) := by omega
    have hlen : (rCF nm n n' ms rs cw zs l f t).1.length ≤ 40 := rCF_len
    have c1 := fun (W : World) (g1 g1' : Option Addr) (L : Option Addr) (h : Months W W.heap.size g1 n ms) (h' : Rules W W.heap.size g1' n' rs) (hI : Ints W W.heap.size L l zs) => specCamFaults_any nm g1 g1' L n n' n n' l l W.heap.size ms rs cw zs f t W h h' hI (Nat.le_refl _) hcn hcn' hl2 HRW.out
    have c2 := fun (W : World) (g1 g1' : Option Addr) (L : Option Addr) (h : Months W W.heap.size g1 n ms) (h' : Rules W W.heap.size g1' n' rs) (hI : Ints W W.heap.size L l zs) => CamFaults_any nm g1 g1' L n n' n n' l l W.heap.size ms rs cw zs f t W h h' hI (Nat.le_refl _) (Nat.le_refl _) hcn hcn' hl2 (Nat.le_refl _) (by omega)
    generalize rCF nm n n' ms rs cw zs l f t = R at *
    obtain ⟨fs, cd⟩ := R
    obtain ⟨mm, hfm⟩ : ∃ mm, fs.length = mm := ⟨_, rfl⟩
    have hmm : mm ≤ 40 := by rw [← hfm]; exact hlen
    have C1 := Lib.hid (fun W g1 g1' L h h' hI => (c1 W g1 g1' L h h' hI).mono fun e1 w1 h9 => newFC_len h9 hfm)
    have C2 := Lib.hid (fun W g1 g1' L h h' hI => (c2 W g1 g1' L h h' hI).mono fun e1 w1 h9 => newFC_len h9 hfm)
    have CT := Lib.hid (fun (W : World) (hb : Below w.heap.size w W) => toCalendar_any nm A A' n n' c c' w.heap.size ms rs cw W (Tri.below H.out hb) (Tri.below H'.out hb) hb.size hcn hcn')
    have IT := Lib.hid (fun (W : World) (hb : Below w.heap.size w W) => (toInt64S_any L l e w.heap.size zs W (Ints.below HI.out hb) hb.size hl2).mono (fun e1 w1 (h : _ ∧ _ ∧ _) => (show ∃ L4, e1 = .returned (.slice L4 l l) ∧ Own w1 W.heap.size L4 l l zs ∧ Below W.heap.size W w1 from ⟨_, h.1, h.2.1, h.2.2⟩)))
    clear c1 c2 hlen CS HR hfm
    -- the reference
    obtain ⟨-, u0, u1, u2, u3⟩ := LD1.out.cal
    go_wp2_with fail
    go_at_call 9
    refine (CT.out _ LD1.out.bl).mono ?_
    rintro e1 w3 ⟨g3, k3, rfl, ho3, hb3⟩
    have LD3 := Lib.hid (LD1.out.call hb3)
    have O3 := Lib.hid ho3
    have z3 := hb3.size
    clear ho3 hb3 u0 u1 u2 u3 LD1
    go_wp2_with fail
    go_at_call 17
    refine (IT.out _ LD3.out.bl).mono ?_
    rintro e1 w4 ⟨L4, rfl, ho4, hb4⟩
    have LD4 := Lib.hid (LD3.out.call hb4)
    have O34 := Lib.hid (O3.out.call hb4)
    have O4 := Lib.hid ho4
    have z4 := hb4.size
    clear ho4 hb4 LD3 O3
    go_wp2_with fail
    go_at_call 16
    refine (C1.out _ _ _ _ (Own2.months O34.out) (Own2.rules O34.out) (Own.ints O4.out (Nat.le_refl _))).mono ?_
    rintro e1 W2 ⟨X, cX, rfl, QM', BM⟩
    have z12 := BM.size
    obtain ⟨lw, hlw⟩ : ∃ g, w4.heap.size = g := ⟨_, rfl⟩
    rw [hlw] at QM' z12
    have QM := Lib.hid QM'
    have LD2 := Lib.hid (LD4.out.call BM)
    have zlw : w.heap.size + 1 ≤ lw := by have := LDL.out; omega
    clear QM' BM LD4 O34 O4 hlw
    -- the copies
    obtain ⟨-, u0, u1, u2, u3⟩ := LD2.out.cal
    go_wp2_with fail
    go_at_call 9
    refine (CT.out _ LD2.out.bl).mono ?_
    clear z3 z4
    rintro e1 w5 ⟨g3, k3, rfl, ho3, hb3⟩
    have z3 := hb3.size
    have hox := ho3.hi_
    have LD3 := Lib.hid ((LD2.out.call hb3).call (alb _ (.cells #[.string nm, .slice (some ⟨g3, 0, none⟩) n n, .slice (some ⟨k3, 0, none⟩) n' n', .int .i64 cw] 33)))
    have QM3 := Lib.hid ((QM.out.call hb3).call (alb _ (.cells #[.string nm, .slice (some ⟨g3, 0, none⟩) n n, .slice (some ⟨k3, 0, none⟩) n' n', .int .i64 cw] 33)))
    have O3 := Lib.hid (ho3.call (alb _ (.cells #[.string nm, .slice (some ⟨g3, 0, none⟩) n n, .slice (some ⟨k3, 0, none⟩) n' n', .int .i64 cw] 33)))
    have KX3 := Lib.hid (cal_new w5 33 nm (some ⟨g3, 0, none⟩) (some ⟨k3, 0, none⟩) n n' n n' cw)
    clear ho3 hb3 u0 u1 u2 u3 LD2 QM
    go_wp2_with fail
    go_at_call 17
    refine (IT.out _ LD3.out.bl).mono ?_
    rintro e1 W9 ⟨L5, rfl, ho5, hb5⟩
    have z5 := hb5.size
    have zw3 : (w5.alloc (.cells #[.string nm, .slice (some ⟨g3, 0, none⟩) n n, .slice (some ⟨k3, 0, none⟩) n' n', .int .i64 cw] 33)).heap.size = w5.heap.size + 1 := by simp
    have LD1 := Lib.hid (LD3.out.call hb5)
    have QM := Lib.hid (QM3.out.call hb5)
    have OX := Lib.hid (O3.out.call hb5)
    have KX := Lib.hid (KX3.out.call hb5)
    have OY := Lib.hid (OwnIn.of ho5)
    clear ho5 hb5 LD3 QM3 O3 KX3
    obtain ⟨gx, hgx⟩ : ∃ g, w5.heap.size = g := ⟨_, rfl⟩
    obtain ⟨lx, hlx⟩ : ∃ g, W2.heap.size = g := ⟨_, rfl⟩
    obtain ⟨ly, hly⟩ : ∃ g, (w5.alloc (.cells #[.string nm, .slice (some ⟨g3, 0, none⟩) n n, .slice (some ⟨k3, 0, none⟩) n' n', .int .i64 cw] 33)).heap.size = g := ⟨_, rfl⟩
    rw [hly] at z5 zw3 OY
    rw [hgx] at zw3 z3 hox KX OX ⊢
    rw [hlx] at z3 z12 QM OX
    obtain ⟨hiy, hhiy⟩ : ∃ g, W9.heap.size = g := ⟨_, rfl⟩
    rw [hhiy] at z5 OY
    clear hly hgx hlx
    have zlo : w.heap.size + 1 ≤ lx := by omega
    obtain ⟨-, u0, u1, u2, u3⟩ := KX.out
    go_wp2_with fail
    go_at_call 18
    refine (C2.out _ _ _ _ (Own2.months OX.out) (Own2.rules OX.out) (OwnIn.ints OY.out (by omega))).mono ?_
    rintro e1 V1 ⟨G, cG, rfl, QN', BN⟩
    have QN1 := Lib.hid QN'
    have LD2 := Lib.hid (LD1.out.call BN)
    have QM1 := Lib.hid (QM.out.call BN)
    have OX1 := Lib.hid (OX.out.call BN)
    have KX1 := Lib.hid (KX.out.call BN)
    have OY1 := Lib.hid (OwnIn.call OY.out BN (by omega))
    have zn := BN.size
    have zhh := QM.out.hh
    clear QN' BN LD1 QM OX KX OY u0 u1 u2 u3
    go_wp2_with fail
    go_at_call 19
    refine (eqFaultS_same _ _ _ _ _ _ _ fs _ QN1.out.own QM1.out.own (by omega)).mono ?_
    rintro e1 V2 ⟨rfl, hb⟩
    have LD3 := Lib.hid (LD2.out.call hb)
    have QM2 := Lib.hid (QM1.out.call hb)
    have QN2 := Lib.hid (QN1.out.call hb)
    have OX2 := Lib.hid (OX1.out.call hb)
    have KX2 := Lib.hid (KX1.out.call hb)
    have OY2 := Lib.hid (OwnIn.call OY1.out hb (by omega))
    have zn2 := hb.size
    clear hb LD2 QM1 QN1 OX1 KX1 OY1
    go_upto_region 13 with fail
    obtain ⟨zc, u0, u1, u2, u3⟩ := KX2.out
    obtain ⟨zd, d0, d1, d2, d3⟩ := LD3.out.cal
    have yb := LD3.out.bl
    have yr := Below.refl V2.heap.size V2
    go_region_held3 (fun w' => w'.cell? ⟨gx, 0, none⟩ = some (.string nm) ∧ w'.cell? ⟨gx, 1, none⟩ = some (.slice (some ⟨g3, 0, none⟩) n n) ∧ w'.cell? ⟨gx, 2, none⟩ = some (.slice (some ⟨k3, 0, none⟩) n' n') ∧ w'.cell? ⟨gx, 3, none⟩ = some (.int .i64 cw) ∧ w'.cell? ⟨w.heap.size, 0, none⟩ = some (.string nm) ∧ w'.cell? ⟨w.heap.size, 1, none⟩ = some (.slice A n c) ∧ w'.cell? ⟨w.heap.size, 2, none⟩ = some (.slice A' n' c') ∧ w'.cell? ⟨w.heap.size, 3, none⟩ = some (.int .i64 cw) ∧ gx < w'.heap.size ∧ w.heap.size < w'.heap.size ∧ Below w.heap.size w w' ∧ Below V2.heap.size V2 w') (first | ((try go_split_ands); (try dsimp only); refine ⟨?_, ?_, ?_, ?_, ?_, ?_, ?_, ?_, ?_, ?_, ?_, ?_⟩ <;> first | (exact cell_call (by assumption) (by assumption) (by assumption)) | (exact lt_call (by assumption) (by assumption)) | (exact below_call' (by assumption) (by assumption)) | (exact Below.drew (by assumption)) | (with_reducible assumption) | (simp; done) | (simp [*]; done) | ((repeat (first | with_reducible exact Below.refl _ _ | with_reducible refine below_alloc ?_ _ | with_reducible refine below_drewN ?_ _ | with_reducible refine Below.drew ?_ | ((with_reducible refine below_set ?_ ?_ _); rotate_left; (focus (first | (simp; done) | (simp; omega) | omega))) | with_reducible refine below_call ?_ (by assumption))); done) | omega | (simp; omega) | (simp [go_sem]; done) | (simp [go_sem, *]; done))) (first | (go_at_call 9; go_split_ands; refine (CT.out _ (by assumption)).mono ?_; rintro e1 w3 ⟨g4, k4, rfl, ho3, hb3⟩; have O3 := Lib.hid ho3; clear ho3) | (go_at_call 12; go_split_ands; refine (eqCalendar_same _ _ _ _ _ _ _ _ _ _ _ _ _ ms rs _ _ (Own2.months (OX2.out.call (by assumption))) (Own2.rules (OX2.out.call (by assumption))) (Own2.months O3.out) (Own2.rules O3.out) (Nat.le_refl _) (Nat.le_refl _) hn hn').mono ?_; rintro e1 V3 ⟨rfl, hb8⟩))
    go_split_ands
    have hb : Below V2.heap.size V2 V3 := by assumption
    have LD4 := Lib.hid (LD3.out.call hb)
    have QM3 := Lib.hid (QM2.out.call hb)
    have QN3 := Lib.hid (QN2.out.call hb)
    have OX3 := Lib.hid (OX2.out.call hb)
    have KX3 := Lib.hid (KX2.out.call hb)
    have OY3 := Lib.hid (OwnIn.call OY2.out hb (by omega))
    have zn3 := hb.size
    clear hb hb3 hb8 O3 LD3 QM2 QN2 OX2 KX2 OY2 yr yb zc zd u0 u1 u2 u3 d0 d1 d2 d3
    go_wp2_with fail
    go_at_call 17
    refine (IT.out _ LD4.out.bl).mono ?_
    rintro e1 V4 ⟨L7, rfl, ho7, hb⟩
    have O7 := Lib.hid (OwnIn.of ho7)
    have LD5 := Lib.hid (LD4.out.call hb)
    have QM4 := Lib.hid (QM3.out.call hb)
    have QN4 := Lib.hid (QN3.out.call hb)
    have OX4 := Lib.hid (OX3.out.call hb)
    have KX4 := Lib.hid (KX3.out.call hb)
    have OY4 := Lib.hid (OwnIn.call OY3.out hb (by omega))
    have zn4 := hb.size
    clear hb ho7 LD4 QM3 QN3 OX3 KX3 OY3
    go_wp2_with fail
    go_at_call 11
    refine (eqInt64S_any _ _ _ _ _ _ V4.heap.size V4.heap.size zs zs _ (OwnIn.ints OY4.out (by omega)) (OwnIn.ints O7.out (Nat.le_refl _)) hl9 hl9).mono ?_
    rintro e1 V5 ⟨rfl, m5, rfl⟩
    rw [show decide (zs = zs) = true by simp]
    have hb : Below V4.heap.size V4 (V4.drewN m5) := below_drewN (Below.refl _ _) m5
    have LD6 := Lib.hid (LD5.out.call hb)
    have QM5 := Lib.hid (QM4.out.call hb)
    have QN5 := Lib.hid (QN4.out.call hb)
    have OX5 := Lib.hid (OX4.out.call hb)
    have KX5 := Lib.hid (KX4.out.call hb)
    have OY5 := Lib.hid (OwnIn.call OY4.out hb (by omega))
    have zn5 := hb.size
    clear hb O7 LD5 QM4 QN4 OX4 KX4 OY4
    obtain ⟨-, u0, u1, u2, u3⟩ := KX5.out
    go_wp2_with fail
    go_at_call 13
    refine (markCalendar_any nm g3 k3 n n' _ _ _ _ cw 1 _ OX5.out hcn hcn' (by omega) (by omega)).mono ?_
    rintro e1 V6 ⟨rfl, ho⟩
    have LD7 := Lib.hid (LD6.out.outer ho (by omega))
    have QM6 := Lib.hid (QM5.out.outer ho (by omega))
    have QN6 := Lib.hid (QN5.out.outer ho (by omega))
    have OY6 : Hid (OwnIn V6 ly hiy L5 l l zs) := Lib.hid (OwnIn.keep OY5.out (fun q h1 h2 => ho.block q (by omega) (by omega)))
    have zn6 := ho.size
    clear ho LD6 QM5 QN5 OX5 KX5 OY5 u0 u1 u2 u3
    go_wp2_with fail
    go_at_call 14
    refine (markInt64S_any _ _ _ _ zs _ _ OY6.out.1 hl2 (by omega) (by omega)).mono ?_
    rintro e1 V7 ⟨rfl, -, hg⟩
    have ho := Outer.of_own OY6.out hg
    have LD8 := Lib.hid (LD7.out.outer ho (by omega))
    have QM7 := Lib.hid (QM6.out.outer ho (by omega))
    have QN7 := Lib.hid (QN6.out.outer ho (by omega))
    have zn7 := ho.size
    clear ho hg LD7 QM6 QN6 OY6
    have kp : ¬ ((1 : Int) + 3 * (n : Int) + 3 * (n' : Int) + (l : Int) < 0) := by omega
    go_wp2_with fail
    go_at_call 19
    refine (eqFaultS_same _ _ _ _ _ _ _ fs _ QN7.out.own QM7.out.own (by omega)).mono ?_
    rintro e1 V8 ⟨rfl, hb⟩
    have LD9 := Lib.hid (LD8.out.call hb)
    have QM8 := Lib.hid (QM7.out.call hb)
    have QN8 := Lib.hid (QN7.out.call hb)
    have zn8 := hb.size
    clear hb LD8 QM7 QN7
    go_wp2_with fail
    go_at_call 20
    refine (markFaultS_any _ _ _ _ fs 1 _ QN8.out.own (by omega) (by omega) (by omega)).mono ?_
    rintro e1 V9 ⟨rfl, ho9, hg⟩
    have ho := Outer.of_fi QN8.out hg
    have LD10 := Lib.hid (LD9.out.outer ho (by omega))
    have QM9 := Lib.hid (QM8.out.outer ho (by omega))
    have QN9 := Lib.hid (QN8.out.mark ho9 hg)
    have zn9 := ho.size
    clear ho hg ho9 LD9 QM8 QN8
    have kq : ¬ ((1 : Int) + 4 * (mm : Int) < 0) := by omega
    go_wp2_with fail
    go_at_call 21
    refine (heldFaultS_any _ _ _ _ 1 _ QN9.out.own (by omega) (by omega) (by omega)).mono ?_
    rintro e1 W0 ⟨rfl, rfl⟩
    -- the second call
    obtain ⟨-, u0, u1, u2, u3⟩ := LD10.out.cal
    go_wp2_with fail
    go_at_call 9
    refine (CT.out _ LD10.out.bl).mono ?_
    rintro e1 w3 ⟨g6, k6, rfl, ho3, hb3⟩
    have LD3 := Lib.hid (LD10.out.call hb3)
    have QM3 := Lib.hid (QM9.out.call hb3)
    have QN3 := Lib.hid (QN9.out.call hb3)
    have O3 := Lib.hid ho3
    clear ho3 hb3 u0 u1 u2 u3 LD10 QM9 QN9
    go_wp2_with fail
    go_at_call 17
    refine (IT.out _ LD3.out.bl).mono ?_
    rintro e1 w6 ⟨L6, rfl, ho4, hb4⟩
    have LD4 := Lib.hid (LD3.out.call hb4)
    have QM4 := Lib.hid (QM3.out.call hb4)
    have QN4 := Lib.hid (QN3.out.call hb4)
    have O34 := Lib.hid (O3.out.call hb4)
    have O4 := Lib.hid ho4
    clear ho4 hb4 LD3 O3 QM3 QN3
    go_wp2_with fail
    go_at_call 18
    refine (C2.out _ _ _ _ (Own2.months O34.out) (Own2.rules O34.out) (Own.ints O4.out (Nat.le_refl _))).mono ?_
    rintro e1 U1 ⟨Y, cY, rfl, QH', hb⟩
    have QH := Lib.hid QH'
    have LD5 := Lib.hid (LD4.out.call hb)
    have QM5 := Lib.hid (QM4.out.call hb)
    have QN5 := Lib.hid (QN4.out.call hb)
    clear QH' hb LD4 QM4 QN4 O34 O4
    go_wp2_with fail
    go_at_call 19
    refine (eqFaultS_same _ _ _ _ _ _ _ fs _ QH.out.own QM5.out.own (by omega)).mono ?_
    rintro e1 U2 ⟨rfl, hb⟩
    have LD6 := Lib.hid (LD5.out.call hb)
    have QN6 := Lib.hid (QN5.out.call hb)
    clear hb LD5 QM5 QN5 QH
    go_wp2_with fail
    go_at_call 21
    refine (heldFaultS_any _ _ _ _ 1 _ QN6.out.own (by omega) (by omega) (by omega)).mono ?_
    rintro e1 U3 ⟨rfl, rfl⟩
    go_wp2
    go_ret
    exact ⟨rfl, LD6.out.bl⟩

set_option maxRecDepth 100000 in
theorem lifted (os : Os) (started : os.Started) (H : Type) (enc : TypeId × Value → H) :
    ReturnsInHanded {} Try.checked os 4 .any (Rows.fnExactCamFaultsSpec.pre6 enc Try.prog Try.f4 Rows.fnExactCamFaultsRow.domain false) (Rows.fnExactCamFaultsSpec.post enc Try.prog Try.f4 false true false false) := by
  refine returnsInHanded_of_change (C := Try.checked) own started (by kernel_rfl) Try.func4
    (ChangeSpec.witness6 (enc := enc) (C := Try.checked) false ⟨#[], #[.agg #[.string ⟨#[]⟩, .slice none 0 0, .slice none 0 0, .int .i64 0], .slice none 0 0, .int .i64 0, .int .i64 0], []⟩ 8 (by kernel_rfl) (by kernel_rfl) (by kernel_rfl) (by kernel_rfl)) ?_
  intro W base args ds gs before hval0 hW hcnd _
  have hval : ∀ (j : Nat) t v, Try.f4.params[j]? = some t → args[j]? = some v → Value.okWide Try.prog W .any base t v := hval0
  have hW' := hW
  obtain ⟨p, q, hA0, hV, rfl, hfz, hnd⟩ := hW
  have hA : DataW.TrodAll enc Try.prog W 0 (fun _ => true) true Try.f4.params.toList args.toList ds p := hA0
  rw [Try.params4] at hA hval
  obtain ⟨v0, vs0, d0, ds0, p0, q0, hargs, rfl, rfl, h0, r0⟩ := trodAll_cons hA
  obtain ⟨v1, vs1, d1, ds1, p1, q1, rfl, rfl, rfl, h1, r1⟩ := trodAll_cons r0
  obtain ⟨v2, vs2, d2, ds2, p2, q2, rfl, rfl, rfl, h2, r2⟩ := trodAll_cons r1
  obtain ⟨v3, vs3, d3, ds3, p3, q3, rfl, rfl, rfl, h3, r3⟩ := trodAll_cons r2
  obtain ⟨rfl, rfl, rfl⟩ := trodAll_nil r3
  obtain rfl : args = #[v0, v1, v2, v3] := by cases args; simp_all
  obtain ⟨rfl, rfl⟩ := trodVars_none hV
  have k0 := h0
  have lt0 : ∀ x ∈ p0, x.block < W.heap.size := by obtain ⟨m, hm⟩ := k0; exact DataW.trod_lt m _ _ _ hm
  have k1 := h1
  have lt1 : ∀ x ∈ p1, x.block < W.heap.size := by obtain ⟨m, hm⟩ := k1; exact DataW.trod_lt m _ _ _ hm
  have k2 := h2
  have lt2 : ∀ x ∈ p2, x.block < W.heap.size := by obtain ⟨m, hm⟩ := k2; exact DataW.trod_lt m _ _ _ hm
  have k3 := h3
  have lt3 : ∀ x ∈ p3, x.block < W.heap.size := by obtain ⟨m, hm⟩ := k3; exact DataW.trod_lt m _ _ _ hm
  obtain ⟨nm0, Ac0, Ar0, nc0, nr0, cc0, cr0, mc0, rc0, wc0, rfl, R0⟩ := open_Calendar (hval 0 25 v0 rfl rfl) h0
  obtain ⟨A1, l1, c1, z1, rfl, R1⟩ := open_Ints (hval 1 27 v1 rfl rfl) h1
  obtain ⟨a2, rfl, _, _, wa2⟩ := open_int Try.underlying2 (hval 2 2 v2 rfl rfl) h2
  obtain ⟨a3, rfl, _, _, wa3⟩ := open_int Try.underlying2 (hval 3 2 v3 rfl rfl) h3
  clear hA0 hval0
  refine (walk nm0 Ac0 Ar0 nc0 nr0 cc0 cr0 mc0 rc0 wc0 A1 l1 c1 z1 a2 a3 W R0 R1 wa2 wa3).mono fun e W' ⟨he, bel⟩ => ?_
  subst he
  exact ⟨_, rfl, _, _, _, [], _, [], hW', trodAll_mk1 (shut_bool Try.underlying4 _), (trodAll_cons_mk (Below.trod laidOut (by kernel_rfl) (of_decide_eq_true (by kernel_rfl)) k0 bel lt0) (trodAll_cons_mk (Below.trod laidOut (by kernel_rfl) (of_decide_eq_true (by kernel_rfl)) k1 bel lt1) (trodAll_cons_mk (Below.trod laidOut (by kernel_rfl) (of_decide_eq_true (by kernel_rfl)) k2 bel lt2) (trodAll_cons_mk (Below.trod laidOut (by kernel_rfl) (of_decide_eq_true (by kernel_rfl)) k3 bel lt3) trodAll_mk0)))), rfl, bel.frame _, fun h => by cases h⟩
theorem over : Rows.fnExactCamFaultsRow.holds Try.pinned (OpenSpec.ofChange Rows.fnExactCamFaultsSpec) :=
  OpenClaim.holds_of_wide 4 Try.f4 rfl rfl rfl rfl rfl rfl rfl ⟨rfl, rfl, rfl, rfl, rfl⟩ rfl rfl rfl rfl rfl (by kernel_rfl) Try.func4 (by kernel_rfl)
    (of_decide_eq_true (by kernel_rfl)) (by unfold Func.isWrapper; first | (rw [if_pos (by decide +kernel)]; kernel_rfl) | (rw [if_neg (by decide +kernel)]; exact ⟨rfl, rfl⟩))
    (fun os started H enc _ => lifted os started H enc)
theorem proved : Rows.FnExactCamFaultsSaid := over
#print axioms proved
end Go.Proofs.Ytbmiamfgdjiodaa.fnExactCamFaults
