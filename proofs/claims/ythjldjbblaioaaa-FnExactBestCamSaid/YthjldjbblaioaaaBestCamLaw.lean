/- The law FnExactBestCam returns true: the program's BestCam is the reference's, it leaves its argument as it was and gives memory of its own. No conditions. -/
import Derived.Test.YthjldjbblaioaaaBest4
import Derived.Test.YthjldjbblaioaaaMarkCal
import Derived.Test.YthjldjbblaioaaaCalKit
import Derived.Test.YthjldjbblaioaaaOpenCal
namespace Go.Proofs.Ythjldjbblaioaaa.fnExactBestCam
open Go.ChangeShapes Go.WideShapes Go.ChangeAt Go.RowKit
set_option linter.unusedVariables false
set_option linter.unusedSimpArgs false
theorem alb (w : World) (o : Obj) : Below w.heap.size w (w.alloc o) := (Below.refl _ _).alloc (Nat.le_refl _) o
/-- the box of the argument: a calendar -/
structure LC (w W : World) (nm : ByteArray) (A A' : Option Addr) (n n' c c' : Nat) (cw : Int) : Prop where
  cal : CalAt W w.heap.size nm A A' n n' c c' cw
  bl : Below w.heap.size w W
section
variable {w W W' : World} {nm : ByteArray} {A A' : Option Addr} {n n' c c' a b : Nat} {cw : Int}
theorem LC.outer (h : LC w W nm A A' n n' c c' cw) (ho : Outer W W' a b) (ha : w.heap.size + 1 ≤ a) : LC w W' nm A A' n n' c c' cw := by
  have h0 := ho.block _ h.cal.lt (.inl (by omega))
  have hc : ∀ o, W'.cell? ⟨w.heap.size, o, none⟩ = W.cell? ⟨w.heap.size, o, none⟩ := fun o => World.cell?_of_block (w := W) h0
  exact ⟨⟨Nat.lt_of_lt_of_le h.cal.lt ho.size, (hc 0).trans h.cal.c0, (hc 1).trans h.cal.c1, (hc 2).trans h.cal.c2, (hc 3).trans h.cal.c3⟩, ho.below h.bl (by omega)⟩
theorem LC.call (h : LC w W nm A A' n n' c c' cw) (hb : Below W.heap.size W W') : LC w W' nm A A' n n' c c' cw := ⟨h.cal.call hb, h.bl.trans (hb.mono h.bl.size)⟩
theorem LC.start (w : World) (t : TypeId) (nm : ByteArray) (A A' : Option Addr) (n n' c c' : Nat) (cw : Int) :
    LC w (w.alloc (.cells #[.string nm, .slice A n c, .slice A' n' c', .int .i64 cw] t)) nm A A' n n' c c' cw := ⟨cal_new w t nm A A' n n' c c' cw, alb _ _⟩
end
/-- a slice in blocks from lo to hi -/
structure OI (W : World) (lo hi : Nat) (A : Option Addr) (n c : Nat) (zs : List Int) : Prop where
  own : OwnIn W lo hi A n c zs
  hh : hi ≤ W.heap.size
section
variable {W W' : World} {lo hi n c a b : Nat} {A : Option Addr} {fs gs : List Int}
theorem OI.outer (h : OI W lo hi A n c fs) (ho : Outer W W' a b) (hd : hi ≤ a ∨ b ≤ lo) : OI W' lo hi A n c fs := by
  have h3 := h.hh
  exact ⟨h.own.keep (fun q h1 h2 => ho.block q (by omega) (by omega)), Nat.le_trans h3 ho.size⟩
theorem OI.call (h : OI W lo hi A n c fs) (hb : Below W.heap.size W W') : OI W' lo hi A n c fs := h.outer (Outer.of_below (lo := hi) (hi := hi) hb) (.inl (Nat.le_refl _))
theorem OI.mark (h : OI W lo hi A n c fs) (h' : Own W' lo A n c gs) (hg : W.grownBy W' (Value.slice A n c).ownBlock) : OI W' lo hi A n c gs := ⟨⟨h', h.own.2⟩, Nat.le_trans h.hh hg.size⟩
theorem Outer.of_oi (h : OI W lo hi A n c fs) (hg : W.grownBy W' (Value.slice A n c).ownBlock) : Outer W W' lo hi :=
  ⟨hg.os, hg.tape, hg.output, hg.size, fun b hb ho => hg.block b hb (fun e => by have := h.own.blk b (by rw [← e]); omega)⟩
theorem newBC_len {w w' : World} {e : Ending} {ct cd : Int} {mm : Nat} (h : NewBC w (fs, ct, cd) e w') (hm : fs.length = mm) : ∃ X c, e = .returned (.tuple #[.slice X mm c, .int .i64 ct, .int .i64 cd]) ∧ OI w' w.heap.size w'.heap.size X mm c fs ∧ Below w.heap.size w w' := by
  obtain ⟨X, m, c, he, ho, hb⟩ := h
  have hl := ho.len
  have e2 : m = mm := hl.symm.trans hm
  subst e2
  exact ⟨X, c, he, ⟨OwnIn.of ho, Nat.le_refl _⟩, hb⟩
end
theorem rBC_len (nm : ByteArray) (n n' : Nat) (ms : List Mth) (rs : List Rul) (cw y : Int) : (rBC nm n n' ms rs cw y).1.length ≤ 260 := by
  cases hv : vCal nm n n' ms rs cw
  · rw [rBC_bad hv]; simp
  cases hy : inB y 1 ((260 / n : Nat) : Int)
  · rw [rBC_far hv hy]; simp
  have y1 := inB_yes hy
  obtain ⟨s, rfl⟩ := Int.eq_ofNat_of_zero_le (show 0 ≤ y by omega)
  obtain ⟨-, -, -, -, ⟨n1, n2⟩, -, -⟩ := vCal_yes hv
  have hsn : s * n ≤ 260 := (div_le_bd n1).mp (by omega)
  rw [rBC_ok hv hy]
  have := (camB_ok (rs := rs) (n' := n') hv (by omega) hsn).2
  show (camB ms rs n n' s).length ≤ 260
  omega
set_option maxRecDepth 8000 in
set_option maxHeartbeats 8000000 in
theorem walk (nm : ByteArray) (A A' : Option Addr) (n n' c c' : Nat) (ms : List Mth) (rs : List Rul) (cw : Int) (f : Int) (w : World) (hR : CameCal w nm A A' n n' c c' ms rs cw) (wf : (Lit.int .i64 f).wf = true) :
    Calls Try.prog 4 #[.agg #[.string nm, .slice A n c, .slice A' n' c', .int .i64 cw], .int .i64 f] w fun e w' => e = .returned (.bool true) ∧ Below w.heap.size w w' := by
  have H := Lib.hid hR.m
  have H' := Lib.hid hR.r
  have hn := hR.hn
  have hn' := hR.hn'
  have HNM := Lib.hid hR.hnm
  have HGM := Lib.hid (fun j (hj : j < n) => (hR.gm j hj).1)
  have HRW := Lib.hid (fun j (hj : j < n') => (wf_lo (hR.gr j hj).1).1)
  have F0 := Lib.hid (LC.start w 46 nm A A' n n' c c' cw)
  have CS := Lib.hid (fun (W : World) (hb : Below w.heap.size w W) => szCalendar_any nm A A' n n' c c' w.heap.size ms cw 1048576 W (Tri.below H.out hb) hb.size (by omega) (by omega) hn hn' HNM.out HGM.out)
  clear hR wf
  go_enter Try.func4, Try.ntmps4
  go_wp2_with fail
  go_at_call 14
  refine (CS.out _ F0.out.bl).mono ?_
  rintro e1 W1 ⟨r, rfl, hb1, hr⟩
  have LD1 := Lib.hid (F0.out.call hb1)
  have LDL : Hid (w.heap.size + 1 ≤ W1.heap.size) := Lib.hid (by have := LD1.out.cal.lt; omega)
  clear hb1
  have HR := Lib.hid hr
  clear hr
  rcases HR.out with hr | hr
  · subst hr
    go_wp2
    go_ret
    exact ⟨rfl, LD1.out.bl⟩
  obtain ⟨r00, r01, -, hcn, hcn', -⟩ := hr
  have q2 : ¬ (r < 0) := by omega
  have hlen : (rBC nm n n' ms rs cw f).1.length ≤ 260 := rBC_len nm n n' ms rs cw f
  have c1 := fun (W : World) (g1 g1' : Option Addr) (h : Months W W.heap.size g1 n ms) (h' : Rules W W.heap.size g1' n' rs) => specBestCam_any nm g1 g1' n n' n n' W.heap.size ms rs cw f W h h' (Nat.le_refl _) hcn hcn' HRW.out
  have c2 := fun (W : World) (g1 g1' : Option Addr) (h : Months W W.heap.size g1 n ms) (h' : Rules W W.heap.size g1' n' rs) => BestCam_any nm g1 g1' n n' n n' W.heap.size ms rs cw f W h h' (Nat.le_refl _) (Nat.le_refl _) hcn hcn'
  generalize rBC nm n n' ms rs cw f = R at *
  obtain ⟨fs, ct, cd⟩ := R
  obtain ⟨mm, hfm⟩ : ∃ mm, fs.length = mm := ⟨_, rfl⟩
  have hmm : mm ≤ 260 := by rw [← hfm]; exact hlen
  have C1 := Lib.hid (fun W g1 g1' h h' => (c1 W g1 g1' h h').mono fun e1 w1 h9 => newBC_len h9 hfm)
  have C2 := Lib.hid (fun W g1 g1' h h' => (c2 W g1 g1' h h').mono fun e1 w1 h9 => newBC_len h9 hfm)
  have CT := Lib.hid (fun (W : World) (hb : Below w.heap.size w W) => toCalendar_any nm A A' n n' c c' w.heap.size ms rs cw W (Tri.below H.out hb) (Tri.below H'.out hb) hb.size hcn hcn')
  clear c1 c2 hlen CS HR hfm
  -- the reference
  obtain ⟨-, u0, u1, u2, u3⟩ := LD1.out.cal
  go_wp2_with fail
  go_at_call 16
  refine (CT.out _ LD1.out.bl).mono ?_
  rintro e1 w4 ⟨g3, k3, rfl, ho3, hb3⟩
  have LD4 := Lib.hid (LD1.out.call hb3)
  have O34 := Lib.hid ho3
  have z4 := hb3.size
  clear ho3 hb3 u0 u1 u2 u3 LD1
  go_wp2_with fail
  go_at_call 15
  refine (C1.out _ _ _ (Own2.months O34.out) (Own2.rules O34.out)).mono ?_
  rintro e1 W2 ⟨X, cX, rfl, QM', BM⟩
  have z12 := BM.size
  obtain ⟨lw, hlw⟩ : ∃ g, w4.heap.size = g := ⟨_, rfl⟩
  rw [hlw] at QM' z12
  have QM := Lib.hid QM'
  have LD2 := Lib.hid (LD4.out.call BM)
  have zlw : w.heap.size + 1 ≤ lw := by have := LDL.out; omega
  clear QM' BM LD4 O34 hlw
  -- the copy
  obtain ⟨-, u0, u1, u2, u3⟩ := LD2.out.cal
  go_wp2_with fail
  go_at_call 16
  refine (CT.out _ LD2.out.bl).mono ?_
  clear z4
  rintro e1 w5 ⟨g3, k3, rfl, ho3, hb3⟩
  have z3 := hb3.size
  have hox := ho3.hi_
  have LD1 := Lib.hid ((LD2.out.call hb3).call (alb _ (.cells #[.string nm, .slice (some ⟨g3, 0, none⟩) n n, .slice (some ⟨k3, 0, none⟩) n' n', .int .i64 cw] 27)))
  have QM3 := Lib.hid ((QM.out.call hb3).call (alb _ (.cells #[.string nm, .slice (some ⟨g3, 0, none⟩) n n, .slice (some ⟨k3, 0, none⟩) n' n', .int .i64 cw] 27)))
  have OX := Lib.hid (ho3.call (alb _ (.cells #[.string nm, .slice (some ⟨g3, 0, none⟩) n n, .slice (some ⟨k3, 0, none⟩) n' n', .int .i64 cw] 27)))
  have KX := Lib.hid (cal_new w5 27 nm (some ⟨g3, 0, none⟩) (some ⟨k3, 0, none⟩) n n' n n' cw)
  clear ho3 hb3 u0 u1 u2 u3 LD2 QM
  obtain ⟨gx, hgx⟩ : ∃ g, w5.heap.size = g := ⟨_, rfl⟩
  obtain ⟨lx, hlx⟩ : ∃ g, W2.heap.size = g := ⟨_, rfl⟩
  obtain ⟨W9, hW9⟩ : ∃ W, w5.alloc (.cells #[.string nm, .slice (some ⟨g3, 0, none⟩) n n, .slice (some ⟨k3, 0, none⟩) n' n', .int .i64 cw] 27) = W := ⟨_, rfl⟩
  have zw3 : W9.heap.size = w5.heap.size + 1 := by rw [← hW9]; simp
  go_upto_region 7 with fail
  rw [hgx] at zw3 z3 hox KX OX
  rw [hlx] at z3 z12 QM3 OX
  rw [hW9] at LD1 QM3 OX KX
  clear hgx hlx hW9
  have zlo : w.heap.size + 1 ≤ lx := by omega
  obtain ⟨-, u0, u1, u2, u3⟩ := KX.out
  go_wp2_with fail
  go_at_call 17
  refine (C2.out _ _ _ (Own2.months OX.out) (Own2.rules OX.out)).mono ?_
  rintro e1 V1 ⟨G, cG, rfl, QN', BN⟩
  obtain ⟨ln, hln⟩ : ∃ g, W9.heap.size = g := ⟨_, rfl⟩
  have zn := BN.size
  rw [hln] at QN' zn zw3
  have QN1 := Lib.hid QN'
  have LD2 := Lib.hid (LD1.out.call BN)
  have QM1 := Lib.hid (QM3.out.call BN)
  have OX1 := Lib.hid (OX.out.call BN)
  have KX1 := Lib.hid (KX.out.call BN)
  have zhh := QM3.out.hh
  rw [hln] at zhh
  clear QN' BN LD1 QM3 OX KX u0 u1 u2 u3 hln
  go_wp2_with fail
  go_at_call 18
  refine (eqInt64S_same' _ (OwnIn.ints QN1.out.own QN1.out.hh) (OwnIn.ints QM1.out.own QM1.out.hh) (by omega) (by omega)).mono ?_
  rintro e1 V2 ⟨rfl, m5, hV2⟩
  have hb : Below V1.heap.size V1 V2 := by rw [hV2]; exact below_drewN (Below.refl _ _) m5
  have LD3 := Lib.hid (LD2.out.call hb)
  have QM2 := Lib.hid (QM1.out.call hb)
  have QN2 := Lib.hid (QN1.out.call hb)
  have OX2 := Lib.hid (OX1.out.call hb)
  have KX2 := Lib.hid (KX1.out.call hb)
  have zn2 := hb.size
  clear hb LD2 QM1 QN1 OX1 KX1 hV2
  go_upto_region 10 with fail
  obtain ⟨zc, u0, u1, u2, u3⟩ := KX2.out
  obtain ⟨zd, d0, d1, d2, d3⟩ := LD3.out.cal
  have yb := LD3.out.bl
  have yr := Below.refl V2.heap.size V2
  go_region_held3 (fun w' => w'.cell? ⟨gx, 0, none⟩ = some (.string nm) ∧ w'.cell? ⟨gx, 1, none⟩ = some (.slice (some ⟨g3, 0, none⟩) n n) ∧ w'.cell? ⟨gx, 2, none⟩ = some (.slice (some ⟨k3, 0, none⟩) n' n') ∧ w'.cell? ⟨gx, 3, none⟩ = some (.int .i64 cw) ∧ w'.cell? ⟨w.heap.size, 0, none⟩ = some (.string nm) ∧ w'.cell? ⟨w.heap.size, 1, none⟩ = some (.slice A n c) ∧ w'.cell? ⟨w.heap.size, 2, none⟩ = some (.slice A' n' c') ∧ w'.cell? ⟨w.heap.size, 3, none⟩ = some (.int .i64 cw) ∧ gx < w'.heap.size ∧ w.heap.size < w'.heap.size ∧ Below w.heap.size w w' ∧ Below V2.heap.size V2 w') (first | ((try go_split_ands); (try dsimp only); refine ⟨?_, ?_, ?_, ?_, ?_, ?_, ?_, ?_, ?_, ?_, ?_, ?_⟩ <;> first | (exact cell_call (by assumption) (by assumption) (by assumption)) | (exact lt_call (by assumption) (by assumption)) | (exact below_call' (by assumption) (by assumption)) | (exact Below.drew (by assumption)) | (with_reducible assumption) | (simp; done) | (simp [*]; done) | ((repeat (first | with_reducible exact Below.refl _ _ | with_reducible refine below_alloc ?_ _ | with_reducible refine below_drewN ?_ _ | with_reducible refine Below.drew ?_ | ((with_reducible refine below_set ?_ ?_ _); rotate_left; (focus (first | (simp; done) | (simp; omega) | omega))) | with_reducible refine below_call ?_ (by assumption))); done) | omega | (simp; omega) | (simp [go_sem]; done) | (simp [go_sem, *]; done))) (first | (go_at_call 16; go_split_ands; refine (CT.out _ (by assumption)).mono ?_; rintro e1 w3 ⟨g4, k4, rfl, ho3, hb3⟩; have O3 := Lib.hid ho3; clear ho3) | (go_at_call 19; go_split_ands; refine (eqCalendar_same _ _ _ _ _ _ _ _ _ _ _ _ _ ms rs _ _ (Own2.months (OX2.out.call (by assumption))) (Own2.rules (OX2.out.call (by assumption))) (Own2.months O3.out) (Own2.rules O3.out) (Nat.le_refl _) (Nat.le_refl _) hn hn').mono ?_; rintro e1 V3 ⟨rfl, hb8⟩))
  go_split_ands
  have hb : Below V2.heap.size V2 V3 := by assumption
  have LD4 := Lib.hid (LD3.out.call hb)
  have QM5 := Lib.hid (QM2.out.call hb)
  have QN5 := Lib.hid (QN2.out.call hb)
  have OX5 := Lib.hid (OX2.out.call hb)
  have KX5 := Lib.hid (KX2.out.call hb)
  have zn5 := hb.size
  clear hb hb3 hb8 O3 LD3 QM2 QN2 OX2 KX2 yr yb zc zd u0 u1 u2 u3 d0 d1 d2 d3
  obtain ⟨-, u0, u1, u2, u3⟩ := KX5.out
  go_wp2_with fail
  go_at_call 20
  refine (markCalendar_any nm g3 k3 n n' _ _ _ _ cw 1 _ OX5.out hcn hcn' (by omega) (by omega)).mono ?_
  rintro e1 V6 ⟨rfl, ho⟩
  have LD8 := Lib.hid (LD4.out.outer ho (by omega))
  have QM7 := Lib.hid (QM5.out.outer ho (by omega))
  have QN7 := Lib.hid (QN5.out.outer ho (by omega))
  have zn6 := ho.size
  clear ho LD4 QM5 QN5 OX5 KX5 u0 u1 u2 u3
  have kp : ¬ ((1 : Int) + 3 * (n : Int) + 3 * (n' : Int) < 0) := by omega
  go_wp2_with fail
  go_at_call 18
  refine (eqInt64S_same' _ (OwnIn.ints QN7.out.own QN7.out.hh) (OwnIn.ints QM7.out.own QM7.out.hh) (by omega) (by omega)).mono ?_
  rintro e1 V8 ⟨rfl, m6, hV8⟩
  have hb : Below V6.heap.size V6 V8 := by rw [hV8]; exact below_drewN (Below.refl _ _) m6
  have LD9 := Lib.hid (LD8.out.call hb)
  have QM8 := Lib.hid (QM7.out.call hb)
  have QN8 := Lib.hid (QN7.out.call hb)
  have zn8 := hb.size
  clear hb LD8 QM7 QN7 hV8
  go_wp2_with fail
  go_at_call 21
  refine (markInt64S_any _ _ _ _ fs 1 _ QN8.out.own.1 (by omega) (by omega) (by omega)).mono ?_
  rintro e1 V9 ⟨rfl, ho9, hg⟩
  have ho := Outer.of_oi QN8.out hg
  have LD10 := Lib.hid (LD9.out.outer ho (by omega))
  have QM9 := Lib.hid (QM8.out.outer ho (by omega))
  have QN9 := Lib.hid (QN8.out.mark ho9 hg)
  have zn9 := ho.size
  clear ho hg ho9 LD9 QM8 QN8
  have kq : ¬ ((1 : Int) + (mm : Int) < 0) := by omega
  go_wp2_with fail
  go_at_call 22
  refine (heldInt64S_any _ _ _ _ 1 _ (OwnIn.ints QN9.out.own QN9.out.hh) (by omega) (by omega) (by omega)).mono ?_
  rintro e1 W0 ⟨rfl, rfl⟩
  -- the second call
  obtain ⟨-, u0, u1, u2, u3⟩ := LD10.out.cal
  go_wp2_with fail
  go_at_call 16
  refine (CT.out _ LD10.out.bl).mono ?_
  rintro e1 w6 ⟨g6, k6, rfl, ho3, hb3⟩
  have LD4 := Lib.hid (LD10.out.call hb3)
  have QM4 := Lib.hid (QM9.out.call hb3)
  have QN4 := Lib.hid (QN9.out.call hb3)
  have O34 := Lib.hid ho3
  clear ho3 hb3 u0 u1 u2 u3 LD10 QM9 QN9
  go_wp2_with fail
  go_at_call 17
  refine (C2.out _ _ _ (Own2.months O34.out) (Own2.rules O34.out)).mono ?_
  rintro e1 U1 ⟨Y, cY, rfl, QH', hb⟩
  have QH := Lib.hid QH'
  have LD5 := Lib.hid (LD4.out.call hb)
  have QM5 := Lib.hid (QM4.out.call hb)
  have QN5 := Lib.hid (QN4.out.call hb)
  clear QH' hb LD4 QM4 QN4 O34
  go_wp2_with fail
  go_at_call 18
  refine (eqInt64S_same' _ (OwnIn.ints QH.out.own QH.out.hh) (OwnIn.ints QM5.out.own QM5.out.hh) (by omega) (by omega)).mono ?_
  rintro e1 U2 ⟨rfl, m7, hU2⟩
  have hb : Below U1.heap.size U1 U2 := by rw [hU2]; exact below_drewN (Below.refl _ _) m7
  have LD6 := Lib.hid (LD5.out.call hb)
  have QN6 := Lib.hid (QN5.out.call hb)
  clear hb LD5 QM5 QN5 QH hU2
  go_wp2_with fail
  go_at_call 22
  refine (heldInt64S_any _ _ _ _ 1 _ (OwnIn.ints QN6.out.own QN6.out.hh) (by omega) (by omega) (by omega)).mono ?_
  rintro e1 U3 ⟨rfl, rfl⟩
  go_wp2
  go_ret
  exact ⟨rfl, LD6.out.bl⟩

set_option maxRecDepth 100000 in
theorem lifted (os : Os) (started : os.Started) (H : Type) (enc : TypeId × Value → H) :
    ReturnsInHanded {} Try.checked os 4 .any (Rows.fnExactBestCamSpec.pre6 enc Try.prog Try.f4 Rows.fnExactBestCamRow.domain false) (Rows.fnExactBestCamSpec.post enc Try.prog Try.f4 false true false false) := by
  refine returnsInHanded_of_change (C := Try.checked) own started (by kernel_rfl) Try.func4
    (ChangeSpec.witness6 (enc := enc) (C := Try.checked) false ⟨#[], #[.agg #[.string ⟨#[]⟩, .slice none 0 0, .slice none 0 0, .int .i64 0], .int .i64 0], []⟩ 8 (by kernel_rfl) (by kernel_rfl) (by kernel_rfl) (by kernel_rfl)) ?_
  intro W base args ds gs before hval0 hW hcnd _
  have hval : ∀ (j : Nat) t v, Try.f4.params[j]? = some t → args[j]? = some v → Value.okWide Try.prog W .any base t v := hval0
  have hW' := hW
  obtain ⟨p, q, hA0, hV, rfl, hfz, hnd⟩ := hW
  have hA : DataW.TrodAll enc Try.prog W 0 (fun _ => true) true Try.f4.params.toList args.toList ds p := hA0
  rw [Try.params4] at hA hval
  obtain ⟨v0, vs0, d0, ds0, p0, q0, hargs, rfl, rfl, h0, r0⟩ := trodAll_cons hA
  obtain ⟨v1, vs1, d1, ds1, p1, q1, rfl, rfl, rfl, h1, r1⟩ := trodAll_cons r0
  obtain ⟨rfl, rfl, rfl⟩ := trodAll_nil r1
  obtain rfl : args = #[v0, v1] := by cases args; simp_all
  obtain ⟨rfl, rfl⟩ := trodVars_none hV
  have k0 := h0
  have lt0 : ∀ x ∈ p0, x.block < W.heap.size := by obtain ⟨m, hm⟩ := k0; exact DataW.trod_lt m _ _ _ hm
  have k1 := h1
  have lt1 : ∀ x ∈ p1, x.block < W.heap.size := by obtain ⟨m, hm⟩ := k1; exact DataW.trod_lt m _ _ _ hm
  obtain ⟨nm0, Ac0, Ar0, nc0, nr0, cc0, cr0, mc0, rc0, wc0, rfl, R0⟩ := open_Calendar (hval 0 46 v0 rfl rfl) h0
  obtain ⟨a1, rfl, _, _, wa1⟩ := open_int Try.underlying2 (hval 1 2 v1 rfl rfl) h1
  clear hA0 hval0
  refine (walk nm0 Ac0 Ar0 nc0 nr0 cc0 cr0 mc0 rc0 wc0 a1 W R0 wa1).mono fun e W' ⟨he, bel⟩ => ?_
  subst he
  exact ⟨_, rfl, _, _, _, [], _, [], hW', trodAll_mk1 (shut_bool Try.underlying4 _), (trodAll_cons_mk (Below.trod laidOut (by kernel_rfl) (of_decide_eq_true (by kernel_rfl)) k0 bel lt0) (trodAll_cons_mk (Below.trod laidOut (by kernel_rfl) (of_decide_eq_true (by kernel_rfl)) k1 bel lt1) trodAll_mk0)), rfl, bel.frame _, fun h => by cases h⟩
theorem over : Rows.fnExactBestCamRow.holds Try.pinned (OpenSpec.ofChange Rows.fnExactBestCamSpec) :=
  OpenClaim.holds_of_wide 4 Try.f4 rfl rfl rfl rfl rfl rfl rfl ⟨rfl, rfl, rfl, rfl, rfl⟩ rfl rfl rfl rfl rfl (by kernel_rfl) Try.func4 (by kernel_rfl)
    (of_decide_eq_true (by kernel_rfl)) (by unfold Func.isWrapper; first | (rw [if_pos (by decide +kernel)]; kernel_rfl) | (rw [if_neg (by decide +kernel)]; exact ⟨rfl, rfl⟩))
    (fun os started H enc _ => lifted os started H enc)
theorem proved : Rows.FnExactBestCamSaid := over
#print axioms proved
end Go.Proofs.Ythjldjbblaioaaa.fnExactBestCam
