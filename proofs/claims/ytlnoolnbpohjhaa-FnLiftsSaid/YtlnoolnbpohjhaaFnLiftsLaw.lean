/- The law FnLifts returns true for all bytes: behind the lifts that are told the strike has the blows, and none before it has. No conditions. -/
import Derived.Test.YtlnoolnbpohjhaaLiftsPlain
import Derived.Test.YtlnoolnbpohjhaaSliceEq
import Derived.BigQuiet
import Derived.Test.YtlnoolnbpohjhaaDrawStrikes
import Derived.Test.YtlnoolnbpohjhaaDrawWrong
import Derived.Test.YtlnoolnbpohjhaaWrong
import Derived.Test.YtlnoolnbpohjhaaStrike2
import Derived.Test.YtlnoolnbpohjhaaRoll
namespace Go.Proofs.Ytlnoolnbpohjhaa.fnLifts
open Go.ChangeShapes Go.WideShapes Go.ChangeAt Go.RowKit
set_option linter.unusedVariables false
set_option linter.unusedSimpArgs false
theorem f6self_b (A A' : Option Addr) (n n' c c' B B' : Nat) (zs : List Int) (w : World) (h : Ints w B A n zs) (h' : Ints w B' A' n' zs) (hn : n ≤ 9223372036854775807) (hn' : n' ≤ 9223372036854775807) :
    Calls Try.prog 12 #[.slice A n c, .slice A' n' c'] w fun e w' => e = .returned (.bool true) ∧ Below w.heap.size w w' :=
  (f6same_any A A' n n' c c' B B' zs zs w h h' hn hn').mono fun e w' ⟨he, k, hb⟩ => ⟨by rw [he]; simp, by rw [hb]; exact below_drewN (Below.refl _ _) k⟩
set_option maxRecDepth 4000 in
set_option maxHeartbeats 4000000 in
theorem walk (A : Option Addr) (n c : Nat) (w : World) (h : CameB w A n) :
    Calls Try.prog 3 #[.slice A n c] w fun e w' => e = .returned (.bool true) ∧ Below w.heap.size w w' := by
  obtain ⟨hb, hn⟩ := h
  by_cases hbig : (4096 : Int) < n
  · have hd : decide ((4096 : Int) < n) = true := by simpa using hbig
    have cF := fun W => f6big_any A n c W hn
    rw [hd] at cF
    have CF := Lib.hid cF
    clear cF hd hb
    go_enter Try.func3, Try.ntmps3
    go_wp2_with (go_at_call 5; refine (CF.out _).mono ?_; rintro e w' ⟨rfl, rfl⟩)
    go_ret
    exact ⟨rfl, by (repeat (first | with_reducible exact Below.refl _ _ | with_reducible refine below_alloc ?_ _ | with_reducible refine below_drewN ?_ _ | with_reducible refine Below.drew ?_ | ((with_reducible refine below_set ?_ ?_ _); rotate_left; (focus (first | (simp; done) | (simp; omega) | omega))) | with_reducible refine below_call ?_ (by assumption)))⟩
  have hd : decide ((4096 : Int) < n) = false := by simpa using hbig
  have cF := fun W => f6big_any A n c W hn
  rw [hd] at cF
  have CF := Lib.hid cF
  have HB := Lib.hid hb
  clear cF hd hb
  go_enter Try.func3, Try.ntmps3
  go_wp2_with (go_at_call 5; refine (CF.out _).mono ?_; rintro e w' ⟨rfl, rfl⟩)
  go_at_call 6
  refine (DrawLiftsUntil_any A n c _ HB.out (by omega)).mono ?_
  rintro e w1 ⟨⟨L, m, d, zs, x, y, rfl, m0, x0, x1, y0, y1, ho⟩, B1⟩
  have zz1 := B1.size
  have rW_1 : Hid (Ints w1 w1.heap.size L m zs) := Lib.hid (ho.ints (Nat.le_refl _))
  have hl : zs.length = m := ho.len
  clear ho
  have cM := fun W (h : Ints W w1.heap.size L m zs) (hB : w1.heap.size ≤ W.heap.size) => LiftsUntil_any L m d w1.heap.size zs x y W h hB (by omega)
  have cS := fun W (h : Ints W w1.heap.size L m zs) (hB : w1.heap.size ≤ W.heap.size) => specLiftsUntil_any L m d w1.heap.size zs x y W h hB (by omega)
  rcases lifts_cases x y hl with ⟨a, cd, hT, hne⟩ | ⟨a, k, hv, rfl, ha, hm24, hk, hT, hbl, hno⟩
  · simp only [hT] at cM cS
    have CM := Lib.hid cM
    have CS := Lib.hid cS
    clear cM cS hT
    go_wp2_with fail
    go_at_call 7
    refine (CM.out _ (by exact Ints.below (rW_1.out) (by (repeat (first | with_reducible exact Below.refl _ _ | with_reducible refine below_alloc ?_ _ | with_reducible refine below_drewN ?_ _ | with_reducible refine Below.drew ?_ | ((with_reducible refine below_set ?_ ?_ _); rotate_left; (focus (first | (simp; done) | (simp; omega) | omega))) | with_reducible refine below_call ?_ (by assumption))))) (by first | omega | (simp; done) | (simp; omega))).mono ?_
    rintro e w2 ⟨rfl, hb2⟩
    have b2 : Below w1.heap.size w1 w2 := ((Below.refl _ _).alloc (Nat.le_refl _) _).trans (hb2.mono (by simp))
    have xM0_2 : w2.cell? ⟨w1.heap.size, 0, none⟩ = some (.slice L m d) := cell_call hb2 (by simp) (by simp)
    have fM_2 : ∀ o, w2.frozen? ⟨w1.heap.size, o, none⟩ = false := fun o => fro_call hb2 (by simp) (by simp)
    have yM_2 : w1.heap.size < w2.heap.size := by have := hb2.size; simp at this; omega
    have rW_2 : Hid (Ints w2 w1.heap.size L m zs) := Lib.hid (rW_1.out.below (b2.mono (by omega)))
    have B2 : Below w.heap.size w w2 := B1.trans (b2.mono B1.size)
    have zz2 := b2.size
    clear b2 B1 rW_1
    clear hb2
    go_wp2_with fail
    go_at_call 8
    refine (CS.out _ (by exact Ints.below (rW_2.out) (by (repeat (first | with_reducible exact Below.refl _ _ | with_reducible refine below_alloc ?_ _ | with_reducible refine below_drewN ?_ _ | with_reducible refine Below.drew ?_ | ((with_reducible refine below_set ?_ ?_ _); rotate_left; (focus (first | (simp; done) | (simp; omega) | omega))) | with_reducible refine below_call ?_ (by assumption))))) (by first | omega | (simp; done) | (simp; omega))).mono ?_
    rintro e w3 ⟨rfl, hb3⟩
    have b3 : Below w2.heap.size w2 w3 := hb3
    have xM0_3 : w3.cell? ⟨w1.heap.size, 0, none⟩ = some (.slice L m d) := cell_call b3 yM_2 xM0_2
    have fM_3 : ∀ o, w3.frozen? ⟨w1.heap.size, o, none⟩ = false := fun o => fro_call b3 yM_2 (fM_2 o)
    have yM_3 : w1.heap.size < w3.heap.size := lt_call b3 yM_2
    have rW_3 : Hid (Ints w3 w1.heap.size L m zs) := Lib.hid (rW_2.out.below (b3.mono (by omega)))
    have B3 : Below w.heap.size w w3 := B2.trans (b3.mono B2.size)
    have zz3 := b3.size
    clear b3 B2 xM0_2 fM_2 yM_2 rW_2
    clear hb3
    go_wp2_with fail
    go_at_call 9
    refine (DrawWrongStrikes_any A n c _ (Byts.wide (HB.out.below B3) (by omega)) (by omega)).mono ?_
    rintro e w4 ⟨⟨L4, m4, d4, zs4, x4, E4, k4, e4, ys4, rfl, m40, k40, hi4, hj4⟩, hb4⟩
    have b4 : Below w3.heap.size w3 w4 := hb4
    have rU_4 : Hid (Ints w4 w4.heap.size L4 m4 zs4) := Lib.hid hi4
    have rE_4 : Hid (Ints w4 w4.heap.size E4 k4 ys4) := Lib.hid hj4
    clear hb4 hi4 hj4
    have xM0_4 : w4.cell? ⟨w1.heap.size, 0, none⟩ = some (.slice L m d) := cell_call b4 yM_3 xM0_3
    have fM_4 : ∀ o, w4.frozen? ⟨w1.heap.size, o, none⟩ = false := fun o => fro_call b4 yM_3 (fM_3 o)
    have yM_4 : w1.heap.size < w4.heap.size := lt_call b4 yM_3
    have rW_4 : Hid (Ints w4 w1.heap.size L m zs) := Lib.hid (rW_3.out.below (b4.mono (by omega)))
    have B4 : Below w.heap.size w w4 := B3.trans (b4.mono B3.size)
    have zz4 := b4.size
    clear b4 B3 xM0_3 fM_3 yM_3 rW_3
    have cV := fun W (h : Ints W w4.heap.size L4 m4 zs4) (hB : w4.heap.size ≤ W.heap.size) (h' : Ints W w4.heap.size E4 k4 ys4) => WrongStrikes_any L4 E4 m4 d4 w4.heap.size k4 e4 w4.heap.size zs4 ys4 x4 W h hB h' hB (by omega) (by omega)
    have cU := fun W (h : Ints W w4.heap.size L4 m4 zs4) (hB : w4.heap.size ≤ W.heap.size) (h' : Ints W w4.heap.size E4 k4 ys4) => specWrongStrikes_any L4 E4 m4 d4 w4.heap.size k4 e4 w4.heap.size zs4 ys4 x4 W h hB h' hB (by omega) (by omega)
    have hQn := wrL_len zs4 ys4 m4 k4 x4 (by omega)
    generalize wrL zs4 ys4 m4 k4 x4 = Q at *
    generalize wrC zs4 ys4 m4 k4 x4 = cw at *
    have CV := Lib.hid cV
    have CU := Lib.hid cU
    clear cV cU
    go_wp2_with fail
    go_at_call 10
    refine (CV.out _ (by exact Ints.below (rU_4.out) (by (repeat (first | with_reducible exact Below.refl _ _ | with_reducible refine below_alloc ?_ _ | with_reducible refine below_drewN ?_ _ | with_reducible refine Below.drew ?_ | ((with_reducible refine below_set ?_ ?_ _); rotate_left; (focus (first | (simp; done) | (simp; omega) | omega))) | with_reducible refine below_call ?_ (by assumption))))) (by first | omega | (simp; done) | (simp; omega)) (by exact Ints.below (rE_4.out) (by (repeat (first | with_reducible exact Below.refl _ _ | with_reducible refine below_alloc ?_ _ | with_reducible refine below_drewN ?_ _ | with_reducible refine Below.drew ?_ | ((with_reducible refine below_set ?_ ?_ _); rotate_left; (focus (first | (simp; done) | (simp; omega) | omega))) | with_reducible refine below_call ?_ (by assumption)))))).mono ?_
    rintro e w5 ⟨A5, n5, c5, rfl, ho5, hb5⟩
    have b5 : Below w4.heap.size w4 w5 := ((Below.refl _ _).alloc (Nat.le_refl _) _).trans (hb5.mono (by simp))
    have xM0_5 : w5.cell? ⟨w1.heap.size, 0, none⟩ = some (.slice L m d) := cell_call b5 yM_4 xM0_4
    have fM_5 : ∀ o, w5.frozen? ⟨w1.heap.size, o, none⟩ = false := fun o => fro_call b5 yM_4 (fM_4 o)
    have yM_5 : w1.heap.size < w5.heap.size := lt_call b5 yM_4
    have xN0_5 : w5.cell? ⟨w4.heap.size, 0, none⟩ = some (.slice L4 m4 d4) := cell_call hb5 (by simp) (by simp)
    have fN_5 : ∀ o, w5.frozen? ⟨w4.heap.size, o, none⟩ = false := fun o => fro_call hb5 (by simp) (by simp)
    have yN_5 : w4.heap.size < w5.heap.size := by have := hb5.size; simp at this; omega
    have rW_5 : Hid (Ints w5 w1.heap.size L m zs) := Lib.hid (rW_4.out.below (b5.mono (by omega)))
    have rU_5 : Hid (Ints w5 w4.heap.size L4 m4 zs4) := Lib.hid (rU_4.out.below (b5.mono (by omega)))
    have rE_5 : Hid (Ints w5 w4.heap.size E4 k4 ys4) := Lib.hid (rE_4.out.below (b5.mono (by omega)))
    have B5 : Below w.heap.size w w5 := B4.trans (b5.mono B4.size)
    have zz5 := b5.size
    clear b5 B4 xM0_4 fM_4 yM_4 rW_4 rU_4 rE_4
    clear hb5
    have len5 := ho5.len
    have rA_5 : Hid (Ints w5 w5.heap.size A5 n5 (Q)) := Lib.hid (ho5.ints (Nat.le_refl _))
    clear ho5
    go_wp2_with fail
    go_at_call 11
    refine (CU.out _ (by exact Ints.below (rU_5.out) (by (repeat (first | with_reducible exact Below.refl _ _ | with_reducible refine below_alloc ?_ _ | with_reducible refine below_drewN ?_ _ | with_reducible refine Below.drew ?_ | ((with_reducible refine below_set ?_ ?_ _); rotate_left; (focus (first | (simp; done) | (simp; omega) | omega))) | with_reducible refine below_call ?_ (by assumption))))) (by first | omega | (simp; done) | (simp; omega)) (by exact Ints.below (rE_5.out) (by (repeat (first | with_reducible exact Below.refl _ _ | with_reducible refine below_alloc ?_ _ | with_reducible refine below_drewN ?_ _ | with_reducible refine Below.drew ?_ | ((with_reducible refine below_set ?_ ?_ _); rotate_left; (focus (first | (simp; done) | (simp; omega) | omega))) | with_reducible refine below_call ?_ (by assumption)))))).mono ?_
    rintro e w6 ⟨A6, n6, c6, rfl, ho6, hb6⟩
    have b6 : Below w5.heap.size w5 w6 := hb6
    have xM0_6 : w6.cell? ⟨w1.heap.size, 0, none⟩ = some (.slice L m d) := cell_call b6 yM_5 xM0_5
    have fM_6 : ∀ o, w6.frozen? ⟨w1.heap.size, o, none⟩ = false := fun o => fro_call b6 yM_5 (fM_5 o)
    have yM_6 : w1.heap.size < w6.heap.size := lt_call b6 yM_5
    have xN0_6 : w6.cell? ⟨w4.heap.size, 0, none⟩ = some (.slice L4 m4 d4) := cell_call b6 yN_5 xN0_5
    have fN_6 : ∀ o, w6.frozen? ⟨w4.heap.size, o, none⟩ = false := fun o => fro_call b6 yN_5 (fN_5 o)
    have yN_6 : w4.heap.size < w6.heap.size := lt_call b6 yN_5
    have rW_6 : Hid (Ints w6 w1.heap.size L m zs) := Lib.hid (rW_5.out.below (b6.mono (by omega)))
    have rU_6 : Hid (Ints w6 w4.heap.size L4 m4 zs4) := Lib.hid (rU_5.out.below (b6.mono (by omega)))
    have rE_6 : Hid (Ints w6 w4.heap.size E4 k4 ys4) := Lib.hid (rE_5.out.below (b6.mono (by omega)))
    have rA_6 : Hid (Ints w6 w5.heap.size A5 n5 (Q)) := Lib.hid (rA_5.out.below (b6.mono (by omega)))
    have B6 : Below w.heap.size w w6 := B5.trans (b6.mono B5.size)
    have zz6 := b6.size
    clear b6 B5 xM0_5 fM_5 yM_5 xN0_5 fN_5 yN_5 rW_5 rU_5 rE_5 rA_5
    clear hb6
    have len6 := ho6.len
    have rB_6 : Hid (Ints w6 w6.heap.size A6 n6 (Q)) := Lib.hid (ho6.ints (Nat.le_refl _))
    clear ho6
    go_wp2_with fail
    go_at_call 12
    refine (f6self_b A5 A6 n5 n6 c5 c6 _ _ _ _ (by exact Ints.below (rA_6.out) (by (repeat (first | with_reducible exact Below.refl _ _ | with_reducible refine below_alloc ?_ _ | with_reducible refine below_drewN ?_ _ | with_reducible refine Below.drew ?_ | ((with_reducible refine below_set ?_ ?_ _); rotate_left; (focus (first | (simp; done) | (simp; omega) | omega))) | with_reducible refine below_call ?_ (by assumption))))) (by exact Ints.below (rB_6.out) (by (repeat (first | with_reducible exact Below.refl _ _ | with_reducible refine below_alloc ?_ _ | with_reducible refine below_drewN ?_ _ | with_reducible refine Below.drew ?_ | ((with_reducible refine below_set ?_ ?_ _); rotate_left; (focus (first | (simp; done) | (simp; omega) | omega))) | with_reducible refine below_call ?_ (by assumption))))) (by omega) (by omega)).mono ?_
    rintro e w7 ⟨rfl, hb7⟩
    have b7 : Below w6.heap.size w6 w7 := hb7
    have xM0_7 : w7.cell? ⟨w1.heap.size, 0, none⟩ = some (.slice L m d) := cell_call b7 yM_6 xM0_6
    have fM_7 : ∀ o, w7.frozen? ⟨w1.heap.size, o, none⟩ = false := fun o => fro_call b7 yM_6 (fM_6 o)
    have yM_7 : w1.heap.size < w7.heap.size := lt_call b7 yM_6
    have xN0_7 : w7.cell? ⟨w4.heap.size, 0, none⟩ = some (.slice L4 m4 d4) := cell_call b7 yN_6 xN0_6
    have fN_7 : ∀ o, w7.frozen? ⟨w4.heap.size, o, none⟩ = false := fun o => fro_call b7 yN_6 (fN_6 o)
    have yN_7 : w4.heap.size < w7.heap.size := lt_call b7 yN_6
    have rW_7 : Hid (Ints w7 w1.heap.size L m zs) := Lib.hid (rW_6.out.below (b7.mono (by omega)))
    have rU_7 : Hid (Ints w7 w4.heap.size L4 m4 zs4) := Lib.hid (rU_6.out.below (b7.mono (by omega)))
    have rE_7 : Hid (Ints w7 w4.heap.size E4 k4 ys4) := Lib.hid (rE_6.out.below (b7.mono (by omega)))
    have rA_7 : Hid (Ints w7 w5.heap.size A5 n5 (Q)) := Lib.hid (rA_6.out.below (b7.mono (by omega)))
    have rB_7 : Hid (Ints w7 w6.heap.size A6 n6 (Q)) := Lib.hid (rB_6.out.below (b7.mono (by omega)))
    have B7 : Below w.heap.size w w7 := B6.trans (b7.mono B6.size)
    have zz7 := b7.size
    clear b7 B6 xM0_6 fM_6 yM_6 xN0_6 fN_6 yN_6 rW_6 rU_6 rE_6 rA_6 rB_6
    clear hb7
    clear rA_7 rB_7 rU_7 rE_7
    go_wp2
    go_ret
    exact ⟨rfl, B7⟩
  · simp only [hT] at cM cS
    have CM := Lib.hid cM
    have CS := Lib.hid cS
    have e1 := sm_at (zs := zs) (k := k) hv ha (by omega)
    have cP := fun W (h : Ints W w1.heap.size L m zs) (hB : w1.heap.size ≤ W.heap.size) => StrikeMany_any L m d w1.heap.size zs (a : Int) (k : Int) W h hB (by omega)
    simp only [e1.1, e1.2.1, e1.2.2] at cP
    have hJm : (a + k) % m < m := Nat.mod_lt _ (by omega)
    have cO := fun W (h : Ints W w1.heap.size L m zs) (hB : w1.heap.size ≤ W.heap.size) => StrikeOnce_any L m d w1.heap.size zs (((a + k) % m : Nat) : Int) W h hB (by omega)
    simp only [strike_at hv hJm, hbl] at cO
    have hmem : decide (y ∈ manyL zs m a k) = false := any_take (n := k) (fun j hj => by rw [manyL_getD hj]; exact hno j hj) rfl (manyL_len _ _ _ _)
    have HME := Lib.hid hmem
    have HLK := Lib.hid (manyL_len zs m a k)
    generalize (a + k) % m = J at *
    generalize (J + 1) % m = J2 at *
    have CP := Lib.hid cP
    have CO := Lib.hid cO
    clear cM cS cP cO hT e1 hbl hno hmem hv hl
    go_wp2_with fail
    go_at_call 7
    refine (CM.out _ (by exact Ints.below (rW_1.out) (by (repeat (first | with_reducible exact Below.refl _ _ | with_reducible refine below_alloc ?_ _ | with_reducible refine below_drewN ?_ _ | with_reducible refine Below.drew ?_ | ((with_reducible refine below_set ?_ ?_ _); rotate_left; (focus (first | (simp; done) | (simp; omega) | omega))) | with_reducible refine below_call ?_ (by assumption))))) (by first | omega | (simp; done) | (simp; omega))).mono ?_
    rintro e w2 ⟨rfl, hb2⟩
    have b2 : Below w1.heap.size w1 w2 := ((Below.refl _ _).alloc (Nat.le_refl _) _).trans (hb2.mono (by simp))
    have xM0_2 : w2.cell? ⟨w1.heap.size, 0, none⟩ = some (.slice L m d) := cell_call hb2 (by simp) (by simp)
    have fM_2 : ∀ o, w2.frozen? ⟨w1.heap.size, o, none⟩ = false := fun o => fro_call hb2 (by simp) (by simp)
    have yM_2 : w1.heap.size < w2.heap.size := by have := hb2.size; simp at this; omega
    have rW_2 : Hid (Ints w2 w1.heap.size L m zs) := Lib.hid (rW_1.out.below (b2.mono (by omega)))
    have B2 : Below w.heap.size w w2 := B1.trans (b2.mono B1.size)
    have zz2 := b2.size
    clear b2 B1 rW_1
    clear hb2
    go_wp2_with fail
    go_at_call 8
    refine (CS.out _ (by exact Ints.below (rW_2.out) (by (repeat (first | with_reducible exact Below.refl _ _ | with_reducible refine below_alloc ?_ _ | with_reducible refine below_drewN ?_ _ | with_reducible refine Below.drew ?_ | ((with_reducible refine below_set ?_ ?_ _); rotate_left; (focus (first | (simp; done) | (simp; omega) | omega))) | with_reducible refine below_call ?_ (by assumption))))) (by first | omega | (simp; done) | (simp; omega))).mono ?_
    rintro e w3 ⟨rfl, hb3⟩
    have b3 : Below w2.heap.size w2 w3 := hb3
    have xM0_3 : w3.cell? ⟨w1.heap.size, 0, none⟩ = some (.slice L m d) := cell_call b3 yM_2 xM0_2
    have fM_3 : ∀ o, w3.frozen? ⟨w1.heap.size, o, none⟩ = false := fun o => fro_call b3 yM_2 (fM_2 o)
    have yM_3 : w1.heap.size < w3.heap.size := lt_call b3 yM_2
    have rW_3 : Hid (Ints w3 w1.heap.size L m zs) := Lib.hid (rW_2.out.below (b3.mono (by omega)))
    have B3 : Below w.heap.size w w3 := B2.trans (b3.mono B2.size)
    have zz3 := b3.size
    clear b3 B2 xM0_2 fM_2 yM_2 rW_2
    clear hb3
    go_wp2_with fail
    go_at_call 9
    refine (DrawWrongStrikes_any A n c _ (Byts.wide (HB.out.below B3) (by omega)) (by omega)).mono ?_
    rintro e w4 ⟨⟨L4, m4, d4, zs4, x4, E4, k4, e4, ys4, rfl, m40, k40, hi4, hj4⟩, hb4⟩
    have b4 : Below w3.heap.size w3 w4 := hb4
    have rU_4 : Hid (Ints w4 w4.heap.size L4 m4 zs4) := Lib.hid hi4
    have rE_4 : Hid (Ints w4 w4.heap.size E4 k4 ys4) := Lib.hid hj4
    clear hb4 hi4 hj4
    have xM0_4 : w4.cell? ⟨w1.heap.size, 0, none⟩ = some (.slice L m d) := cell_call b4 yM_3 xM0_3
    have fM_4 : ∀ o, w4.frozen? ⟨w1.heap.size, o, none⟩ = false := fun o => fro_call b4 yM_3 (fM_3 o)
    have yM_4 : w1.heap.size < w4.heap.size := lt_call b4 yM_3
    have rW_4 : Hid (Ints w4 w1.heap.size L m zs) := Lib.hid (rW_3.out.below (b4.mono (by omega)))
    have B4 : Below w.heap.size w w4 := B3.trans (b4.mono B3.size)
    have zz4 := b4.size
    clear b4 B3 xM0_3 fM_3 yM_3 rW_3
    have cV := fun W (h : Ints W w4.heap.size L4 m4 zs4) (hB : w4.heap.size ≤ W.heap.size) (h' : Ints W w4.heap.size E4 k4 ys4) => WrongStrikes_any L4 E4 m4 d4 w4.heap.size k4 e4 w4.heap.size zs4 ys4 x4 W h hB h' hB (by omega) (by omega)
    have cU := fun W (h : Ints W w4.heap.size L4 m4 zs4) (hB : w4.heap.size ≤ W.heap.size) (h' : Ints W w4.heap.size E4 k4 ys4) => specWrongStrikes_any L4 E4 m4 d4 w4.heap.size k4 e4 w4.heap.size zs4 ys4 x4 W h hB h' hB (by omega) (by omega)
    have hQn := wrL_len zs4 ys4 m4 k4 x4 (by omega)
    generalize wrL zs4 ys4 m4 k4 x4 = Q at *
    generalize wrC zs4 ys4 m4 k4 x4 = cw at *
    have CV := Lib.hid cV
    have CU := Lib.hid cU
    clear cV cU
    go_wp2_with fail
    go_at_call 10
    refine (CV.out _ (by exact Ints.below (rU_4.out) (by (repeat (first | with_reducible exact Below.refl _ _ | with_reducible refine below_alloc ?_ _ | with_reducible refine below_drewN ?_ _ | with_reducible refine Below.drew ?_ | ((with_reducible refine below_set ?_ ?_ _); rotate_left; (focus (first | (simp; done) | (simp; omega) | omega))) | with_reducible refine below_call ?_ (by assumption))))) (by first | omega | (simp; done) | (simp; omega)) (by exact Ints.below (rE_4.out) (by (repeat (first | with_reducible exact Below.refl _ _ | with_reducible refine below_alloc ?_ _ | with_reducible refine below_drewN ?_ _ | with_reducible refine Below.drew ?_ | ((with_reducible refine below_set ?_ ?_ _); rotate_left; (focus (first | (simp; done) | (simp; omega) | omega))) | with_reducible refine below_call ?_ (by assumption)))))).mono ?_
    rintro e w5 ⟨A5, n5, c5, rfl, ho5, hb5⟩
    have b5 : Below w4.heap.size w4 w5 := ((Below.refl _ _).alloc (Nat.le_refl _) _).trans (hb5.mono (by simp))
    have xM0_5 : w5.cell? ⟨w1.heap.size, 0, none⟩ = some (.slice L m d) := cell_call b5 yM_4 xM0_4
    have fM_5 : ∀ o, w5.frozen? ⟨w1.heap.size, o, none⟩ = false := fun o => fro_call b5 yM_4 (fM_4 o)
    have yM_5 : w1.heap.size < w5.heap.size := lt_call b5 yM_4
    have xN0_5 : w5.cell? ⟨w4.heap.size, 0, none⟩ = some (.slice L4 m4 d4) := cell_call hb5 (by simp) (by simp)
    have fN_5 : ∀ o, w5.frozen? ⟨w4.heap.size, o, none⟩ = false := fun o => fro_call hb5 (by simp) (by simp)
    have yN_5 : w4.heap.size < w5.heap.size := by have := hb5.size; simp at this; omega
    have rW_5 : Hid (Ints w5 w1.heap.size L m zs) := Lib.hid (rW_4.out.below (b5.mono (by omega)))
    have rU_5 : Hid (Ints w5 w4.heap.size L4 m4 zs4) := Lib.hid (rU_4.out.below (b5.mono (by omega)))
    have rE_5 : Hid (Ints w5 w4.heap.size E4 k4 ys4) := Lib.hid (rE_4.out.below (b5.mono (by omega)))
    have B5 : Below w.heap.size w w5 := B4.trans (b5.mono B4.size)
    have zz5 := b5.size
    clear b5 B4 xM0_4 fM_4 yM_4 rW_4 rU_4 rE_4
    clear hb5
    have len5 := ho5.len
    have rA_5 : Hid (Ints w5 w5.heap.size A5 n5 (Q)) := Lib.hid (ho5.ints (Nat.le_refl _))
    clear ho5
    go_wp2_with fail
    go_at_call 11
    refine (CU.out _ (by exact Ints.below (rU_5.out) (by (repeat (first | with_reducible exact Below.refl _ _ | with_reducible refine below_alloc ?_ _ | with_reducible refine below_drewN ?_ _ | with_reducible refine Below.drew ?_ | ((with_reducible refine below_set ?_ ?_ _); rotate_left; (focus (first | (simp; done) | (simp; omega) | omega))) | with_reducible refine below_call ?_ (by assumption))))) (by first | omega | (simp; done) | (simp; omega)) (by exact Ints.below (rE_5.out) (by (repeat (first | with_reducible exact Below.refl _ _ | with_reducible refine below_alloc ?_ _ | with_reducible refine below_drewN ?_ _ | with_reducible refine Below.drew ?_ | ((with_reducible refine below_set ?_ ?_ _); rotate_left; (focus (first | (simp; done) | (simp; omega) | omega))) | with_reducible refine below_call ?_ (by assumption)))))).mono ?_
    rintro e w6 ⟨A6, n6, c6, rfl, ho6, hb6⟩
    have b6 : Below w5.heap.size w5 w6 := hb6
    have xM0_6 : w6.cell? ⟨w1.heap.size, 0, none⟩ = some (.slice L m d) := cell_call b6 yM_5 xM0_5
    have fM_6 : ∀ o, w6.frozen? ⟨w1.heap.size, o, none⟩ = false := fun o => fro_call b6 yM_5 (fM_5 o)
    have yM_6 : w1.heap.size < w6.heap.size := lt_call b6 yM_5
    have xN0_6 : w6.cell? ⟨w4.heap.size, 0, none⟩ = some (.slice L4 m4 d4) := cell_call b6 yN_5 xN0_5
    have fN_6 : ∀ o, w6.frozen? ⟨w4.heap.size, o, none⟩ = false := fun o => fro_call b6 yN_5 (fN_5 o)
    have yN_6 : w4.heap.size < w6.heap.size := lt_call b6 yN_5
    have rW_6 : Hid (Ints w6 w1.heap.size L m zs) := Lib.hid (rW_5.out.below (b6.mono (by omega)))
    have rU_6 : Hid (Ints w6 w4.heap.size L4 m4 zs4) := Lib.hid (rU_5.out.below (b6.mono (by omega)))
    have rE_6 : Hid (Ints w6 w4.heap.size E4 k4 ys4) := Lib.hid (rE_5.out.below (b6.mono (by omega)))
    have rA_6 : Hid (Ints w6 w5.heap.size A5 n5 (Q)) := Lib.hid (rA_5.out.below (b6.mono (by omega)))
    have B6 : Below w.heap.size w w6 := B5.trans (b6.mono B5.size)
    have zz6 := b6.size
    clear b6 B5 xM0_5 fM_5 yM_5 xN0_5 fN_5 yN_5 rW_5 rU_5 rE_5 rA_5
    clear hb6
    have len6 := ho6.len
    have rB_6 : Hid (Ints w6 w6.heap.size A6 n6 (Q)) := Lib.hid (ho6.ints (Nat.le_refl _))
    clear ho6
    go_wp2_with fail
    go_at_call 12
    refine (f6self_b A5 A6 n5 n6 c5 c6 _ _ _ _ (by exact Ints.below (rA_6.out) (by (repeat (first | with_reducible exact Below.refl _ _ | with_reducible refine below_alloc ?_ _ | with_reducible refine below_drewN ?_ _ | with_reducible refine Below.drew ?_ | ((with_reducible refine below_set ?_ ?_ _); rotate_left; (focus (first | (simp; done) | (simp; omega) | omega))) | with_reducible refine below_call ?_ (by assumption))))) (by exact Ints.below (rB_6.out) (by (repeat (first | with_reducible exact Below.refl _ _ | with_reducible refine below_alloc ?_ _ | with_reducible refine below_drewN ?_ _ | with_reducible refine Below.drew ?_ | ((with_reducible refine below_set ?_ ?_ _); rotate_left; (focus (first | (simp; done) | (simp; omega) | omega))) | with_reducible refine below_call ?_ (by assumption))))) (by omega) (by omega)).mono ?_
    rintro e w7 ⟨rfl, hb7⟩
    have b7 : Below w6.heap.size w6 w7 := hb7
    have xM0_7 : w7.cell? ⟨w1.heap.size, 0, none⟩ = some (.slice L m d) := cell_call b7 yM_6 xM0_6
    have fM_7 : ∀ o, w7.frozen? ⟨w1.heap.size, o, none⟩ = false := fun o => fro_call b7 yM_6 (fM_6 o)
    have yM_7 : w1.heap.size < w7.heap.size := lt_call b7 yM_6
    have xN0_7 : w7.cell? ⟨w4.heap.size, 0, none⟩ = some (.slice L4 m4 d4) := cell_call b7 yN_6 xN0_6
    have fN_7 : ∀ o, w7.frozen? ⟨w4.heap.size, o, none⟩ = false := fun o => fro_call b7 yN_6 (fN_6 o)
    have yN_7 : w4.heap.size < w7.heap.size := lt_call b7 yN_6
    have rW_7 : Hid (Ints w7 w1.heap.size L m zs) := Lib.hid (rW_6.out.below (b7.mono (by omega)))
    have rU_7 : Hid (Ints w7 w4.heap.size L4 m4 zs4) := Lib.hid (rU_6.out.below (b7.mono (by omega)))
    have rE_7 : Hid (Ints w7 w4.heap.size E4 k4 ys4) := Lib.hid (rE_6.out.below (b7.mono (by omega)))
    have rA_7 : Hid (Ints w7 w5.heap.size A5 n5 (Q)) := Lib.hid (rA_6.out.below (b7.mono (by omega)))
    have rB_7 : Hid (Ints w7 w6.heap.size A6 n6 (Q)) := Lib.hid (rB_6.out.below (b7.mono (by omega)))
    have B7 : Below w.heap.size w w7 := B6.trans (b7.mono B6.size)
    have zz7 := b7.size
    clear b7 B6 xM0_6 fM_6 yM_6 xN0_6 fN_6 yN_6 rW_6 rU_6 rE_6 rA_6 rB_6
    clear hb7
    clear rA_7 rB_7 rU_7 rE_7
    go_wp2_with fail
    go_at_call 13
    refine (CP.out _ (by exact Ints.below (rW_7.out) (by (repeat (first | with_reducible exact Below.refl _ _ | with_reducible refine below_alloc ?_ _ | with_reducible refine below_drewN ?_ _ | with_reducible refine Below.drew ?_ | ((with_reducible refine below_set ?_ ?_ _); rotate_left; (focus (first | (simp; done) | (simp; omega) | omega))) | with_reducible refine below_call ?_ (by assumption))))) (by first | omega | (simp; done) | (simp; omega))).mono ?_
    rintro e w8 ⟨A8, n8, c8, rfl, ho8, hb8⟩
    have b8 : Below w7.heap.size w7 w8 := hb8
    have xM0_8 : w8.cell? ⟨w1.heap.size, 0, none⟩ = some (.slice L m d) := cell_call b8 yM_7 xM0_7
    have fM_8 : ∀ o, w8.frozen? ⟨w1.heap.size, o, none⟩ = false := fun o => fro_call b8 yM_7 (fM_7 o)
    have yM_8 : w1.heap.size < w8.heap.size := lt_call b8 yM_7
    have xN0_8 : w8.cell? ⟨w4.heap.size, 0, none⟩ = some (.slice L4 m4 d4) := cell_call b8 yN_7 xN0_7
    have fN_8 : ∀ o, w8.frozen? ⟨w4.heap.size, o, none⟩ = false := fun o => fro_call b8 yN_7 (fN_7 o)
    have yN_8 : w4.heap.size < w8.heap.size := lt_call b8 yN_7
    have rW_8 : Hid (Ints w8 w1.heap.size L m zs) := Lib.hid (rW_7.out.below (b8.mono (by omega)))
    have B8 : Below w.heap.size w w8 := B7.trans (b8.mono B7.size)
    have zz8 := b8.size
    clear b8 B7 xM0_7 fM_7 yM_7 xN0_7 fN_7 yN_7 rW_7
    clear hb8
    obtain rfl : k = n8 := (by rw [← ho8.len, HLK.out])
    have rK_8 : Hid (Ints w8 w8.heap.size A8 k (manyL zs m a k)) := Lib.hid (ho8.ints (Nat.le_refl _))
    clear ho8
    go_wp2_with fail
    go_at_call 14
    refine (CO.out _ (by exact Ints.below (rW_8.out) (by (repeat (first | with_reducible exact Below.refl _ _ | with_reducible refine below_alloc ?_ _ | with_reducible refine below_drewN ?_ _ | with_reducible refine Below.drew ?_ | ((with_reducible refine below_set ?_ ?_ _); rotate_left; (focus (first | (simp; done) | (simp; omega) | omega))) | with_reducible refine below_call ?_ (by assumption))))) (by first | omega | (simp; done) | (simp; omega))).mono ?_
    rintro e w9 ⟨rfl, hb9⟩
    have b9 : Below w8.heap.size w8 w9 := hb9
    have xM0_9 : w9.cell? ⟨w1.heap.size, 0, none⟩ = some (.slice L m d) := cell_call b9 yM_8 xM0_8
    have fM_9 : ∀ o, w9.frozen? ⟨w1.heap.size, o, none⟩ = false := fun o => fro_call b9 yM_8 (fM_8 o)
    have yM_9 : w1.heap.size < w9.heap.size := lt_call b9 yM_8
    have xN0_9 : w9.cell? ⟨w4.heap.size, 0, none⟩ = some (.slice L4 m4 d4) := cell_call b9 yN_8 xN0_8
    have fN_9 : ∀ o, w9.frozen? ⟨w4.heap.size, o, none⟩ = false := fun o => fro_call b9 yN_8 (fN_8 o)
    have yN_9 : w4.heap.size < w9.heap.size := lt_call b9 yN_8
    have rW_9 : Hid (Ints w9 w1.heap.size L m zs) := Lib.hid (rW_8.out.below (b9.mono (by omega)))
    have rK_9 : Hid (Ints w9 w8.heap.size A8 k (manyL zs m a k)) := Lib.hid (rK_8.out.below (b9.mono (by omega)))
    have B9 : Below w.heap.size w w9 := B8.trans (b9.mono B8.size)
    have zz9 := b9.size
    clear b9 B8 xM0_8 fM_8 yM_8 xN0_8 fN_8 yN_8 rW_8 rK_8
    clear hb9
    have hyy : (y == y) = true := by simp
    have RK : Hid (Ints w9 w8.heap.size A8 k (manyL zs m a k)) := rK_9
    go_wp2_with (first | (go_at_call 15; refine (f6has_any A8 k c8 w8.heap.size (manyL zs m a k) y _ RK.out (by omega)).mono ?_; rintro e w' ⟨rfl, rfl⟩; rw [HME.out]) | fail)
    go_ret
    exact ⟨rfl, B9⟩

set_option maxRecDepth 100000 in
theorem lifted (os : Os) (started : os.Started) (H : Type) (enc : TypeId × Value → H) :
    ReturnsInHanded {} Try.checked os 3 .any (Rows.fnLiftsSpec.pre6 enc Try.prog Try.f3 Rows.fnLiftsRow.domain false) (Rows.fnLiftsSpec.post enc Try.prog Try.f3 false true false false) := by
  refine returnsInHanded_of_change (C := Try.checked) own started (by kernel_rfl) Try.func3
    (ChangeSpec.witness6 (enc := enc) (C := Try.checked) false ⟨#[], #[.slice none 0 0], []⟩ 8 (by kernel_rfl) (by kernel_rfl) (by kernel_rfl) (by kernel_rfl)) ?_
  intro W base args ds gs before hval0 hW hcnd _
  have hval : ∀ (j : Nat) t v, Try.f3.params[j]? = some t → args[j]? = some v → Value.okWide Try.prog W .any base t v := hval0
  have hW' := hW
  obtain ⟨p, q, hA0, hV, rfl, hfz, hnd⟩ := hW
  have hA : DataW.TrodAll enc Try.prog W 0 (fun _ => true) true Try.f3.params.toList args.toList ds p := hA0
  rw [Try.params3] at hA hval
  obtain ⟨v0, vs0, d0, ds0, p0, q0, hargs, rfl, rfl, h0, r0⟩ := trodAll_cons hA
  obtain ⟨rfl, rfl, rfl⟩ := trodAll_nil r0
  obtain rfl : args = #[v0] := by cases args; simp_all
  obtain ⟨rfl, rfl⟩ := trodVars_none hV
  have k0 := h0
  have lt0 : ∀ x ∈ p0, x.block < W.heap.size := by obtain ⟨m, hm⟩ := k0; exact DataW.trod_lt m _ _ _ hm
  obtain ⟨A0, l0, c0, rfl, R0⟩ := open_Bytes (hval 0 22 v0 rfl rfl) h0
  clear hA0 hval0
  refine (walk A0 l0 c0 W R0).mono fun e W' ⟨he, bel⟩ => ?_
  subst he
  exact ⟨_, rfl, _, _, _, [], _, [], hW', trodAll_mk1 (shut_bool Try.underlying4 _), (trodAll_cons_mk (Below.trod laidOut (by kernel_rfl) (of_decide_eq_true (by kernel_rfl)) k0 bel lt0) trodAll_mk0), rfl, bel.frame _, fun h => by cases h⟩
theorem over : Rows.fnLiftsRow.holds Try.pinned (OpenSpec.ofChange Rows.fnLiftsSpec) :=
  OpenClaim.holds_of_wide 3 Try.f3 rfl rfl rfl rfl rfl rfl rfl ⟨rfl, rfl, rfl, rfl, rfl⟩ rfl rfl rfl rfl rfl (by kernel_rfl) Try.func3 (by kernel_rfl)
    (of_decide_eq_true (by kernel_rfl)) (by unfold Func.isWrapper; first | (rw [if_pos (by decide +kernel)]; kernel_rfl) | (rw [if_neg (by decide +kernel)]; exact ⟨rfl, rfl⟩))
    (fun os started H enc _ => lifted os started H enc)
theorem proved : Rows.FnLiftsSaid := over
#print axioms proved
end Go.Proofs.Ytlnoolnbpohjhaa.fnLifts
