/- The law FnSunCams returns true for all bytes: no step of a cam is steeper than the steepest one, and greater steps have greater radii. No conditions. -/
import Derived.Test.YtmmpbbhddhapmaaSunCamPlain
import Derived.Test.YtmmpbbhddhapmaaSliceEq
import Derived.BigQuiet
import Derived.Test.YtmmpbbhddhapmaaDrawSun
import Derived.Test.YtmmpbbhddhapmaaOpenBytes
namespace Go.Proofs.Ytmmpbbhddhapmaa.fnSunCams
open Go.ChangeShapes Go.WideShapes Go.ChangeAt Go.RowKit
set_option linter.unusedVariables false
set_option linter.unusedSimpArgs false
set_option maxHeartbeats 400000 in
theorem f6big_any (A : Option Addr) (n c : Nat) (w : World) (hn : n ≤ 9223372036854775807) :
    Calls Try.prog 30 #[.slice A n c] w fun e w' => e = .returned (.bool (decide ((4096 : Int) < n))) ∧ w = w' := by
  go_enter Try.func30, Try.ntmps30
  go_wp2
  go_ret
  exact ⟨rfl, rfl⟩
set_option maxHeartbeats 400000 in
theorem f6size_any (n : Int) (w : World) (h1 : -9223372036854775807 ≤ n) :
    Calls Try.prog 34 #[.int .i64 n] w fun e w' => e = .returned (.int .i64 (n.natAbs : Int)) ∧ w = w' := by
  by_cases hn : n < 0
  · go_enter Try.func34, Try.ntmps34
    go_wp2
    go_ret
    exact ⟨ret_int (by omega), rfl⟩
  · go_enter Try.func34, Try.ntmps34
    go_wp2
    go_ret
    exact ⟨ret_int (by omega), rfl⟩
theorem f6self_any (A A' : Option Addr) (n n' c c' B B' : Nat) (zs : List Int) (w : World) (h : Ints w B A n zs) (h' : Ints w B' A' n' zs) (hn : n ≤ 9223372036854775807) (hn' : n' ≤ 9223372036854775807) :
    Calls Try.prog 33 #[.slice A n c, .slice A' n' c'] w fun e w' => e = .returned (.bool true) ∧ ∃ m, w' = w.drewN m :=
  (f6same_any A A' n n' c c' B B' zs zs w h h' hn hn').mono fun e w' ⟨he, hb⟩ => ⟨by rw [he]; simp, hb⟩
set_option maxRecDepth 4000 in
set_option maxHeartbeats 4000000 in
theorem walk (A : Option Addr) (n c : Nat) (w : World) (h : CameB w A n) :
    Calls Try.prog 10 #[.slice A n c] w fun e w' => e = .returned (.bool true) ∧ Below w.heap.size w w' := by
  obtain ⟨hb, hn⟩ := h
  by_cases hbig : (4096 : Int) < n
  · have hd : decide ((4096 : Int) < n) = true := by simpa using hbig
    have cF := fun W => f6big_any A n c W hn
    rw [hd] at cF
    have CF := Lib.hid cF
    clear cF hd hb
    go_enter Try.func10, Try.ntmps10
    go_wp2_with (go_at_call 30; refine (CF.out _).mono ?_; rintro e w' ⟨rfl, rfl⟩)
    go_ret
    exact ⟨rfl, by (repeat (first | with_reducible exact Below.refl _ _ | with_reducible refine below_alloc ?_ _ | with_reducible refine below_drewN ?_ _ | with_reducible refine Below.drew ?_ | ((with_reducible refine below_set ?_ ?_ _); rotate_left; (focus (first | (simp; done) | (simp; omega) | omega))) | with_reducible refine below_call ?_ (by assumption)))⟩
  have hd : decide ((4096 : Int) < n) = false := by simpa using hbig
  have cF := fun W => f6big_any A n c W hn
  rw [hd] at cF
  have CF := Lib.hid cF
  have HB := Lib.hid hb
  clear cF hd hb
  go_enter Try.func10, Try.ntmps10
  go_wp2_with (go_at_call 30; refine (CF.out _).mono ?_; rintro e w' ⟨rfl, rfl⟩)
  go_at_call 32
  refine (DrawSunRadii_any A n c _ HB.out (by omega)).mono ?_
  rintro e w1 ⟨⟨L, m, d, zs, x, y, rfl, m0, x0, x1, y0, y1, ho⟩, B1⟩
  have zz1 := B1.size
  have i1 : Ints w1 w1.heap.size L m zs := ho.ints (Nat.le_refl _)
  have hl : zs.length = m := ho.len
  clear ho
  have cM := fun W (h : Ints W w1.heap.size L m zs) (hB : w1.heap.size ≤ W.heap.size) => SteepestStep_any L m d w1.heap.size zs  W h hB (by omega)
  have cS := fun W (h : Ints W w1.heap.size L m zs) (hB : w1.heap.size ≤ W.heap.size) => specSteepestStep_any L m d w1.heap.size zs  W h hB (by omega)
  have cV := fun W (h : Ints W w1.heap.size L m zs) (hB : w1.heap.size ≤ W.heap.size) => SunRadii_any L m d w1.heap.size zs x y W h hB (by omega)
  have cU := fun W (h : Ints W w1.heap.size L m zs) (hB : w1.heap.size ≤ W.heap.size) => specSunRadii_any L m d w1.heap.size zs x y W h hB (by omega)
  have CV := Lib.hid cV
  have CU := Lib.hid cU
  clear cV cU
  have hcase : (steepT zs m = .tuple #[.int .i64 0, .int .i64 1]) ∨ (vSun zs = true ∧ steepT zs m = .tuple #[.int .i64 (bestK zs m m : Int), .int .i64 0]) := by
    cases hv : vSun zs
    · exact .inl (steep_no hv)
    · exact .inr ⟨rfl, steep_yes hv⟩
  rcases hcase with hT | ⟨hv, hT⟩
  · simp only [hT] at cM cS
    have CM := Lib.hid cM
    have CS := Lib.hid cS
    clear cM cS hT
    go_wp2_with fail
    go_at_call 17
    refine (CM.out _ (by exact Ints.below (i1) (by (repeat (first | with_reducible exact Below.refl _ _ | with_reducible refine below_alloc ?_ _ | with_reducible refine below_drewN ?_ _ | with_reducible refine Below.drew ?_ | ((with_reducible refine below_set ?_ ?_ _); rotate_left; (focus (first | (simp; done) | (simp; omega) | omega))) | with_reducible refine below_call ?_ (by assumption))))) (by first | omega | (simp; done) | (simp; omega))).mono ?_
    rintro e w2 ⟨rfl, hb2⟩
    have b2 : Below w1.heap.size w1 w2 := ((Below.refl _ _).alloc (Nat.le_refl _) _).trans (hb2.mono (by simp))
    have xM0_2 : w2.cell? ⟨w1.heap.size, 0, none⟩ = some (.slice L m d) := cell_call hb2 (by simp) (by simp)
    have fM_2 : ∀ o, w2.frozen? ⟨w1.heap.size, o, none⟩ = false := fun o => fro_call hb2 (by simp) (by simp)
    have yM_2 : w1.heap.size < w2.heap.size := by have := hb2.size; simp at this; omega
    have B2 : Below w.heap.size w w2 := B1.trans (b2.mono B1.size)
    have zz2 := b2.size
    have i2 : Ints w2 w1.heap.size L m zs := i1.below (b2.mono (by omega))
    clear hb2 b2 B1 
    go_wp2_with fail
    go_at_call 16
    refine (CS.out _ (by exact Ints.below (i2) (by (repeat (first | with_reducible exact Below.refl _ _ | with_reducible refine below_alloc ?_ _ | with_reducible refine below_drewN ?_ _ | with_reducible refine Below.drew ?_ | ((with_reducible refine below_set ?_ ?_ _); rotate_left; (focus (first | (simp; done) | (simp; omega) | omega))) | with_reducible refine below_call ?_ (by assumption))))) (by first | omega | (simp; done) | (simp; omega))).mono ?_
    rintro e w3 ⟨rfl, hb3⟩
    have b3 : Below w2.heap.size w2 w3 := hb3
    have xM0_3 : w3.cell? ⟨w1.heap.size, 0, none⟩ = some (.slice L m d) := cell_call b3 yM_2 xM0_2
    have fM_3 : ∀ o, w3.frozen? ⟨w1.heap.size, o, none⟩ = false := fun o => fro_call b3 yM_2 (fM_2 o)
    have yM_3 : w1.heap.size < w3.heap.size := lt_call b3 yM_2
    have B3 : Below w.heap.size w w3 := B2.trans (b3.mono B2.size)
    have zz3 := b3.size
    have i3 : Ints w3 w1.heap.size L m zs := i2.below (b3.mono (by omega))
    clear hb3 b3 B2 xM0_2 fM_2 yM_2
    go_wp2_with fail
    go_at_call 25
    refine (CV.out _ (by exact Ints.below (i3) (by (repeat (first | with_reducible exact Below.refl _ _ | with_reducible refine below_alloc ?_ _ | with_reducible refine below_drewN ?_ _ | with_reducible refine Below.drew ?_ | ((with_reducible refine below_set ?_ ?_ _); rotate_left; (focus (first | (simp; done) | (simp; omega) | omega))) | with_reducible refine below_call ?_ (by assumption))))) (by first | omega | (simp; done) | (simp; omega))).mono ?_
    rintro e w4 ⟨A2, n2, c2, rfl, ho4, hb4⟩
    have b4 : Below w3.heap.size w3 w4 := hb4
    have xM0_4 : w4.cell? ⟨w1.heap.size, 0, none⟩ = some (.slice L m d) := cell_call b4 yM_3 xM0_3
    have fM_4 : ∀ o, w4.frozen? ⟨w1.heap.size, o, none⟩ = false := fun o => fro_call b4 yM_3 (fM_3 o)
    have yM_4 : w1.heap.size < w4.heap.size := lt_call b4 yM_3
    have B4 : Below w.heap.size w w4 := B3.trans (b4.mono B3.size)
    have zz4 := b4.size
    have i4 : Ints w4 w1.heap.size L m zs := i3.below (b4.mono (by omega))
    clear hb4 b4 B3 xM0_3 fM_3 yM_3
    have O4 := Lib.hid ho4
    clear ho4
    go_wp2_with fail
    go_at_call 24
    refine (CU.out _ (by exact Ints.below (i4) (by (repeat (first | with_reducible exact Below.refl _ _ | with_reducible refine below_alloc ?_ _ | with_reducible refine below_drewN ?_ _ | with_reducible refine Below.drew ?_ | ((with_reducible refine below_set ?_ ?_ _); rotate_left; (focus (first | (simp; done) | (simp; omega) | omega))) | with_reducible refine below_call ?_ (by assumption))))) (by first | omega | (simp; done) | (simp; omega))).mono ?_
    rintro e w5 ⟨A3, n3, c3, rfl, ho5, hb5⟩
    have b5 : Below w4.heap.size w4 w5 := hb5
    have xM0_5 : w5.cell? ⟨w1.heap.size, 0, none⟩ = some (.slice L m d) := cell_call b5 yM_4 xM0_4
    have fM_5 : ∀ o, w5.frozen? ⟨w1.heap.size, o, none⟩ = false := fun o => fro_call b5 yM_4 (fM_4 o)
    have yM_5 : w1.heap.size < w5.heap.size := lt_call b5 yM_4
    have B5 : Below w.heap.size w w5 := B4.trans (b5.mono B4.size)
    have zz5 := b5.size
    have i5 : Ints w5 w1.heap.size L m zs := i4.below (b5.mono (by omega))
    have b5k := b5
    clear hb5 b5 B4 xM0_4 fM_4 yM_4
    have k2 := O4.out.cap
    have k3 := ho5.cap
    have H2 : Hid (Ints w5 w5.heap.size A2 n2 (radR zs x y)) := Lib.hid ((O4.out.block (fun b hb hl => b5k.block b hl)).ints (Nat.le_refl _))
    have H3 := Lib.hid (ho5.ints (Nat.le_refl _))
    clear ho5 O4 b5k
    go_wp2_with (go_at_call 33; refine (f6self_any A2 A3 n2 n3 c2 c3 _ _ _ _ H2.out H3.out (by omega) (by omega)).mono ?_; rintro e w' ⟨rfl, nq, rfl⟩)
    go_ret
    exact ⟨rfl, by exact below_drewN B5 _⟩
  · have hb := (vSun_yes hv).1
    have h1 := (vSun_yes hv).2.1
    have h2 := (vSun_yes hv).2.2
    rw [hl] at h1 h2
    have hK := bestK_le zs m m
    have hbest := best_max zs m m
    obtain ⟨K, hKK⟩ : ∃ K, K = bestK zs m m := ⟨_, rfl⟩
    rw [← hKK] at hT hK hbest
    simp only [hT] at cM cS
    have CM := Lib.hid cM
    have CS := Lib.hid cS
    have HB1 := Lib.hid hb
    have HBest := Lib.hid hbest
    have HL := Lib.hid hl
    have HV := Lib.hid hv
    clear cM cS hT hb hbest hKK hl hv
    obtain ⟨b, off, rfl, hbl, hc1⟩ := i1.2 (by omega)
    clear hc1
    go_wp2_with fail
    go_at_call 17
    refine (CM.out _ (by exact Ints.below (i1) (by (repeat (first | with_reducible exact Below.refl _ _ | with_reducible refine below_alloc ?_ _ | with_reducible refine below_drewN ?_ _ | with_reducible refine Below.drew ?_ | ((with_reducible refine below_set ?_ ?_ _); rotate_left; (focus (first | (simp; done) | (simp; omega) | omega))) | with_reducible refine below_call ?_ (by assumption))))) (by first | omega | (simp; done) | (simp; omega))).mono ?_
    rintro e w2 ⟨rfl, hb2⟩
    have b2 : Below w1.heap.size w1 w2 := ((Below.refl _ _).alloc (Nat.le_refl _) _).trans (hb2.mono (by simp))
    have xM0_2 : w2.cell? ⟨w1.heap.size, 0, none⟩ = some (.slice (some ⟨b, off, none⟩) m d) := cell_call hb2 (by simp) (by simp)
    have fM_2 : ∀ o, w2.frozen? ⟨w1.heap.size, o, none⟩ = false := fun o => fro_call hb2 (by simp) (by simp)
    have yM_2 : w1.heap.size < w2.heap.size := by have := hb2.size; simp at this; omega
    have B2 : Below w.heap.size w w2 := B1.trans (b2.mono B1.size)
    have zz2 := b2.size
    have i2 : Ints w2 w1.heap.size (some ⟨b, off, none⟩) m zs := i1.below (b2.mono (by omega))
    clear hb2 b2 B1 
    go_wp2_with fail
    go_at_call 16
    refine (CS.out _ (by exact Ints.below (i2) (by (repeat (first | with_reducible exact Below.refl _ _ | with_reducible refine below_alloc ?_ _ | with_reducible refine below_drewN ?_ _ | with_reducible refine Below.drew ?_ | ((with_reducible refine below_set ?_ ?_ _); rotate_left; (focus (first | (simp; done) | (simp; omega) | omega))) | with_reducible refine below_call ?_ (by assumption))))) (by first | omega | (simp; done) | (simp; omega))).mono ?_
    rintro e w3 ⟨rfl, hb3⟩
    have b3 : Below w2.heap.size w2 w3 := hb3
    have xM0_3 : w3.cell? ⟨w1.heap.size, 0, none⟩ = some (.slice (some ⟨b, off, none⟩) m d) := cell_call b3 yM_2 xM0_2
    have fM_3 : ∀ o, w3.frozen? ⟨w1.heap.size, o, none⟩ = false := fun o => fro_call b3 yM_2 (fM_2 o)
    have yM_3 : w1.heap.size < w3.heap.size := lt_call b3 yM_2
    have B3 : Below w.heap.size w w3 := B2.trans (b3.mono B2.size)
    have zz3 := b3.size
    have i3 : Ints w3 w1.heap.size (some ⟨b, off, none⟩) m zs := i2.below (b3.mono (by omega))
    clear hb3 b3 B2 xM0_2 fM_2 yM_2
    go_wp2_with fail
    go_at_call 25
    refine (CV.out _ (by exact Ints.below (i3) (by (repeat (first | with_reducible exact Below.refl _ _ | with_reducible refine below_alloc ?_ _ | with_reducible refine below_drewN ?_ _ | with_reducible refine Below.drew ?_ | ((with_reducible refine below_set ?_ ?_ _); rotate_left; (focus (first | (simp; done) | (simp; omega) | omega))) | with_reducible refine below_call ?_ (by assumption))))) (by first | omega | (simp; done) | (simp; omega))).mono ?_
    rintro e w4 ⟨A2, n2, c2, rfl, ho4, hb4⟩
    have b4 : Below w3.heap.size w3 w4 := hb4
    have xM0_4 : w4.cell? ⟨w1.heap.size, 0, none⟩ = some (.slice (some ⟨b, off, none⟩) m d) := cell_call b4 yM_3 xM0_3
    have fM_4 : ∀ o, w4.frozen? ⟨w1.heap.size, o, none⟩ = false := fun o => fro_call b4 yM_3 (fM_3 o)
    have yM_4 : w1.heap.size < w4.heap.size := lt_call b4 yM_3
    have B4 : Below w.heap.size w w4 := B3.trans (b4.mono B3.size)
    have zz4 := b4.size
    have i4 : Ints w4 w1.heap.size (some ⟨b, off, none⟩) m zs := i3.below (b4.mono (by omega))
    clear hb4 b4 B3 xM0_3 fM_3 yM_3
    have O4 := Lib.hid ho4
    clear ho4
    go_wp2_with fail
    go_at_call 24
    refine (CU.out _ (by exact Ints.below (i4) (by (repeat (first | with_reducible exact Below.refl _ _ | with_reducible refine below_alloc ?_ _ | with_reducible refine below_drewN ?_ _ | with_reducible refine Below.drew ?_ | ((with_reducible refine below_set ?_ ?_ _); rotate_left; (focus (first | (simp; done) | (simp; omega) | omega))) | with_reducible refine below_call ?_ (by assumption))))) (by first | omega | (simp; done) | (simp; omega))).mono ?_
    rintro e w5 ⟨A3, n3, c3, rfl, ho5, hb5⟩
    have b5 : Below w4.heap.size w4 w5 := hb5
    have xM0_5 : w5.cell? ⟨w1.heap.size, 0, none⟩ = some (.slice (some ⟨b, off, none⟩) m d) := cell_call b5 yM_4 xM0_4
    have fM_5 : ∀ o, w5.frozen? ⟨w1.heap.size, o, none⟩ = false := fun o => fro_call b5 yM_4 (fM_4 o)
    have yM_5 : w1.heap.size < w5.heap.size := lt_call b5 yM_4
    have B5 : Below w.heap.size w w5 := B4.trans (b5.mono B4.size)
    have zz5 := b5.size
    have i5 : Ints w5 w1.heap.size (some ⟨b, off, none⟩) m zs := i4.below (b5.mono (by omega))
    have b5k := b5
    clear hb5 b5 B4 xM0_4 fM_4 yM_4
    have k2 := O4.out.cap
    have k3 := ho5.cap
    have H2 : Hid (Ints w5 w5.heap.size A2 n2 (radR zs x y)) := Lib.hid ((O4.out.block (fun b hb hl => b5k.block b hl)).ints (Nat.le_refl _))
    have H3 := Lib.hid (ho5.ints (Nat.le_refl _))
    have I5 : Hid (Ints w5 w1.heap.size (some ⟨b, off, none⟩) m zs) := Lib.hid i5
    clear ho5 O4 b5k i1 i2 i3 i4 i5
    have ck : ∀ k, k < m → w5.cell? ⟨b, off + k, none⟩ = some (.int .i64 (zs.getD k 0)) := fun k hk => by obtain ⟨b', off', e, _, hc⟩ := I5.out.2 (by omega); cases e; exact hc k hk
    have HC := Lib.hid ck
    clear ck
    have hj : (K + 1) % m < m := Nat.mod_lt _ (by omega)
    obtain ⟨J, hJ⟩ : ∃ J, J = (K + 1) % m := ⟨_, rfl⟩
    have qr : ((K + 1 : Nat) : Int).tmod (m : Int) = (J : Int) := by rw [Int.tmod_eq_emod_of_nonneg (Int.natCast_nonneg _), hJ]; exact (Int.natCast_emod _ m).symm
    rw [← hJ] at hj
    have c1 := HC.out K (by omega)
    have c2' := HC.out J hj
    have b1 := HB1.out K (by rw [HL.out]; omega)
    have b2 := HB1.out J (by rw [HL.out]; exact hj)
    have hS : ((zs.getD J 0 - zs.getD K 0).natAbs : Int) = stepI zs m K := by unfold stepI; rw [hJ]
    generalize hu : zs.getD J 0 = u at *
    generalize hv : zs.getD K 0 = v at *
    have q1 : IntKind.i64.wrap ((K : Int) + 1) = (K : Int) + 1 := IntWalk.i64_in _ (by omega)
    have q2 : ((K : Int) + 1).tmod (m : Int) = (J : Int) := by rw [← qr]; rfl
    have q3 : IntKind.i64.wrap (u - v) = u - v := IntWalk.i64_in _ (by omega)
    have r1 : (0 : Int) ≤ (J : Int) := Int.natCast_nonneg _
    have r2 : (J : Int) < (m : Int) := by omega
    have r3 : (0 : Int) ≤ (K : Int) := Int.natCast_nonneg _
    have r4 : (K : Int) < (m : Int) := by omega
    have r5 : ¬ ((m : Int) = 0) := by omega
    have r6 : ((m : Int) == 0) = false := by simpa using r5
    have HJ := Lib.hid hJ
    have HU := Lib.hid hu
    have HVV := Lib.hid hv
    have HSS := Lib.hid hS
    clear hJ qr hu hv hS
    have r7 : ¬ (m = 0) := by omega
    have r8 : (m == 0) = false := by simpa using r7
    have q4 : IntKind.i64.wrap (J : Int) = (J : Int) := IntWalk.i64_in _ (by omega)
    have r9 : ¬ ((m : Int) = -1) := by omega
    have q5 : IntKind.i64.wrap (((K : Int) + 1).tmod (m : Int)) = (J : Int) := by rw [q2, q4]
    go_wp2_with (go_at_call 33; refine (f6self_any A2 A3 n2 n3 c2 c3 _ _ _ _ H2.out H3.out (by omega) (by omega)).mono ?_; rintro e w' ⟨rfl, nq, rfl⟩)
    have x6 : (w5.drewN nq).cell? ⟨w1.heap.size, 0, none⟩ = some (.slice (some ⟨b, off, none⟩) m d) := xM0_5
    have c16 : (w5.drewN nq).cell? ⟨b, off + K, none⟩ = some (.int .i64 v) := c1
    have c26 : (w5.drewN nq).cell? ⟨b, off + J, none⟩ = some (.int .i64 u) := c2'
    have HC6 : Hid (∀ k, k < m → (w5.drewN nq).cell? ⟨b, off + k, none⟩ = some (.int .i64 (zs.getD k 0))) := Lib.hid HC.out
    have B6 := below_drewN B5 nq
    have H6 : Hid (Ints (w5.drewN nq) w5.heap.size A2 n2 (radR zs x y)) := Lib.hid H2.out
    have z6 : w5.heap.size ≤ (w5.drewN nq).heap.size := Nat.le_refl _
    clear xM0_5 fM_5 c1 c2' HC B5 H2 H3 I5
    generalize w5.drewN nq = w6 at *
    go_quiet ((go_at_call 34; exact quiet_left (f6size_any (u - v) _ (by omega))))
    have B7 := below_drewN B6 nq
    have X7 : (w6.drewN nq).cell? ⟨w1.heap.size, 0, none⟩ = some (.slice (some ⟨b, off, none⟩) m d) := x6
    have HC7 : Hid (∀ k, k < m → (w6.drewN nq).cell? ⟨b, off + k, none⟩ = some (.int .i64 (zs.getD k 0))) := Lib.hid HC6.out
    have H7 : Hid (Ints (w6.drewN nq) w5.heap.size A2 n2 (radR zs x y)) := Lib.hid H6.out
    clear B6 x6 HC6 H6 c16 c26 z6
    generalize w6.drewN nq = w7 at *
    generalize ((u - v).natAbs : Int) = Q at *
    have hrc := rad_code (base := x) (scale := y) HV.out
    rcases hrc with ⟨hR, hRL, hs⟩ | hR
    · rw [hRL] at H7
      have hn2 : m = n2 := by have := H7.out.len; rw [radL_len, HL.out] at this; omega
      subst hn2
      rw [hR]
      obtain ⟨b2, off2, rfl, hb2, hd⟩ := H7.out.2 (by omega)
      have HD7 := Lib.hid hd
      clear hd hR hRL H7
      go_wp2
      go_loopw [16, 17] (fun s t wr => ∃ i : Nat, s = .int .i64 (i : Int) ∧ i ≤ m ∧ Below w.heap.size w wr ∧ wr.cell? ⟨w1.heap.size, 0, none⟩ = some (.slice (some ⟨b, off, none⟩) m d) ∧ Hid (∀ k, k < m → wr.cell? ⟨b, off + k, none⟩ = some (.int .i64 (zs.getD k 0))) ∧ Hid (∀ k, k < m → wr.cell? ⟨b2, off2 + k, none⟩ = some (.int .i64 ((radL zs x y).getD k 0)))) (fun s _ _ => m - (intOf s).toNat)
      case atStart => exact ⟨0, rfl, by omega, B7, X7, HC7, HD7⟩
      case round =>
        obtain ⟨i, rfl, hi, Br, Xr, HCr, HDr⟩ := hrel
        clear B7 X7 HC7 HD7
        by_cases hlt : i < m
        · have hlt2 : (i : Int) < (m : Int) := by omega
          have hj : (i + 1) % m < m := Nat.mod_lt _ (by omega)
          obtain ⟨J2, hJ⟩ : ∃ J2, J2 = (i + 1) % m := ⟨_, rfl⟩
          have qr : ((i + 1 : Nat) : Int).tmod (m : Int) = (J2 : Int) := by rw [Int.tmod_eq_emod_of_nonneg (Int.natCast_nonneg _), hJ]; exact (Int.natCast_emod _ m).symm
          rw [← hJ] at hj
          have d1 := HCr.out i hlt
          have d2 := HCr.out J2 hj
          have e1 := HB1.out i (by rw [HL.out]; exact hlt)
          have e2 := HB1.out J2 (by rw [HL.out]; exact hj)
          have hle : ((zs.getD J2 0 - zs.getD i 0).natAbs : Int) ≤ Q := by have h9 := HBest.out i hlt; rw [HSS.out]; unfold stepI at h9 ⊢; rw [hJ]; exact h9
          skip
          generalize hu2 : zs.getD J2 0 = u2 at *
          generalize hv2 : zs.getD i 0 = v2 at *
          have p1 : IntKind.i64.wrap ((i : Int) + 1) = (i : Int) + 1 := IntWalk.i64_in _ (by omega)
          have p2 : ((i : Int) + 1).tmod (m : Int) = (J2 : Int) := by rw [← qr]; rfl
          have p3 : IntKind.i64.wrap (u2 - v2) = u2 - v2 := IntWalk.i64_in _ (by omega)
          have p4 : (0 : Int) ≤ (J2 : Int) := Int.natCast_nonneg _
          have p5 : (J2 : Int) < (m : Int) := by omega
          have p6 : (0 : Int) ≤ (i : Int) := Int.natCast_nonneg _
          have p7 : IntKind.i64.wrap (J2 : Int) = (J2 : Int) := IntWalk.i64_in _ (by omega)
          have p8 : ¬ (Q < ((u2 - v2).natAbs : Int)) := by omega
          have HU2 := Lib.hid hu2
          have HV2 := Lib.hid hv2
          clear hJ qr hu2 hv2 hle
          go_wp2
          go_quiet ((go_at_call 34; exact quiet_left (f6size_any (u2 - v2) _ (by omega))))
          go_wp2
          have Bk := below_drewN Br nq
          go_loopw [17] (fun s w2 => ∃ j : Nat, s = .int .i64 (j : Int) ∧ j ≤ m ∧ Below w.heap.size w w2 ∧ w2.cell? ⟨w1.heap.size, 0, none⟩ = some (.slice (some ⟨b, off, none⟩) m d) ∧ Hid (∀ k, k < m → w2.cell? ⟨b, off + k, none⟩ = some (.int .i64 (zs.getD k 0))) ∧ Hid (∀ k, k < m → w2.cell? ⟨b2, off2 + k, none⟩ = some (.int .i64 ((radL zs x y).getD k 0)))) (fun s _ => m - (intOf s).toNat)
          case atStart => exact ⟨0, rfl, by omega, Bk, Xr, HCr, HDr⟩
          case round =>
            obtain ⟨j, rfl, hjm, Bs, Xs, HCs, HDs⟩ := hrel
            clear Br Xr HCr HDr Bk d1 d2
            by_cases hjt : j < m
            · have hjt2 : (j : Int) < (m : Int) := by omega
              have f1 := HCs.out i hlt
              have f2 := HCs.out j hjt
              have f3 := HDs.out i hlt
              have f4 := HDs.out j hjt
              have hmono := fun h => radL_mono (base := x) (scale := y) (i := i) (j := j) (by rw [HL.out]; exact hlt) (by rw [HL.out]; exact hjt) hs h
              have p9 : (0 : Int) ≤ (j : Int) := Int.natCast_nonneg _
              rw [HV2.out] at f1 hmono
              generalize hz : zs.getD j 0 = zj at f2 hmono
              generalize hri : (radL zs x y).getD i 0 = ri at f3 hmono
              generalize hrj : (radL zs x y).getD j 0 = rj at f4 hmono
              clear hz hri hrj
              by_cases hvz : v2 ≤ zj
              · have hm2 : ¬ (rj < ri) := by have := hmono hvz; omega
                clear hmono
                go_wp2
                go_quiet (fail)
                have Bq := below_drewN Bs nq
                go_wp2
                go_roundw
                case rel => exact ⟨j + 1, by go_num, by omega, Bq, Xs, HCs, HDs⟩
                case measure => simp [intOf]; omega
              · have hvb : decide (v2 ≤ zj) = false := decide_eq_false hvz
                have hvc : zj < v2 := by omega
                have hvd : ¬ (v2 ≤ zj) := hvz
                clear hmono
                go_wp2
                go_quiet (fail)
                have Bq := below_drewN Bs nq
                go_wp2
                go_roundw
                case rel => exact ⟨j + 1, by go_num, by omega, Bq, Xs, HCs, HDs⟩
                case measure => simp [intOf]; omega
            · have hjt2 : ¬ ((j : Int) < (m : Int)) := by omega
              go_wp2
              go_roundw
              case rel => exact ⟨i + 1, by go_num, by omega, Bs, Xs, HCs, HDs⟩
              case measure => simp [intOf]; omega
        · have hlt2 : ¬ ((i : Int) < (m : Int)) := by omega
          go_wp2
          go_ret
          exact ⟨rfl, Br⟩
    · generalize radC zs x y = RC at *
      go_wp2
      go_loopw [16, 17] (fun s t wr => ∃ i : Nat, s = .int .i64 (i : Int) ∧ i ≤ m ∧ Below w.heap.size w wr ∧ wr.cell? ⟨w1.heap.size, 0, none⟩ = some (.slice (some ⟨b, off, none⟩) m d) ∧ Hid (∀ k, k < m → wr.cell? ⟨b, off + k, none⟩ = some (.int .i64 (zs.getD k 0)))) (fun s _ _ => m - (intOf s).toNat)
      case atStart => exact ⟨0, rfl, by omega, B7, X7, HC7⟩
      case round =>
        obtain ⟨i, rfl, hi, Br, Xr, HCr⟩ := hrel
        clear B7 X7 HC7
        by_cases hlt : i < m
        · have hlt2 : (i : Int) < (m : Int) := by omega
          have hj : (i + 1) % m < m := Nat.mod_lt _ (by omega)
          obtain ⟨J2, hJ⟩ : ∃ J2, J2 = (i + 1) % m := ⟨_, rfl⟩
          have qr : ((i + 1 : Nat) : Int).tmod (m : Int) = (J2 : Int) := by rw [Int.tmod_eq_emod_of_nonneg (Int.natCast_nonneg _), hJ]; exact (Int.natCast_emod _ m).symm
          rw [← hJ] at hj
          have d1 := HCr.out i hlt
          have d2 := HCr.out J2 hj
          have e1 := HB1.out i (by rw [HL.out]; exact hlt)
          have e2 := HB1.out J2 (by rw [HL.out]; exact hj)
          have hle : ((zs.getD J2 0 - zs.getD i 0).natAbs : Int) ≤ Q := by have h9 := HBest.out i hlt; rw [HSS.out]; unfold stepI at h9 ⊢; rw [hJ]; exact h9
          skip
          generalize hu2 : zs.getD J2 0 = u2 at *
          generalize hv2 : zs.getD i 0 = v2 at *
          have p1 : IntKind.i64.wrap ((i : Int) + 1) = (i : Int) + 1 := IntWalk.i64_in _ (by omega)
          have p2 : ((i : Int) + 1).tmod (m : Int) = (J2 : Int) := by rw [← qr]; rfl
          have p3 : IntKind.i64.wrap (u2 - v2) = u2 - v2 := IntWalk.i64_in _ (by omega)
          have p4 : (0 : Int) ≤ (J2 : Int) := Int.natCast_nonneg _
          have p5 : (J2 : Int) < (m : Int) := by omega
          have p6 : (0 : Int) ≤ (i : Int) := Int.natCast_nonneg _
          have p7 : IntKind.i64.wrap (J2 : Int) = (J2 : Int) := IntWalk.i64_in _ (by omega)
          have p8 : ¬ (Q < ((u2 - v2).natAbs : Int)) := by omega
          have HU2 := Lib.hid hu2
          have HV2 := Lib.hid hv2
          clear hJ qr hu2 hv2 hle
          go_wp2
          go_quiet ((go_at_call 34; exact quiet_left (f6size_any (u2 - v2) _ (by omega))))
          go_wp2
          have Bk := below_drewN Br nq
          go_loopw [] (fun w2 => Below w.heap.size w w2 ∧ w2.cell? ⟨w1.heap.size, 0, none⟩ = some (.slice (some ⟨b, off, none⟩) m d) ∧ Hid (∀ k, k < m → w2.cell? ⟨b, off + k, none⟩ = some (.int .i64 (zs.getD k 0)))) (fun _ => 0)
          case atStart => exact ⟨Bk, Xr, HCr⟩
          case round =>
          obtain ⟨Bs, Xs, HCs⟩ := hrel
          clear Br Xr HCr Bk d1 d2
          go_wp2
          go_roundw
          case rel => exact ⟨i + 1, by go_num, by omega, Bs, Xs, HCs⟩
          case measure => simp [intOf]; omega
        · have hlt2 : ¬ ((i : Int) < (m : Int)) := by omega
          go_wp2
          go_ret
          exact ⟨rfl, Br⟩

set_option maxRecDepth 100000 in
theorem lifted (os : Os) (started : os.Started) (H : Type) (enc : TypeId × Value → H) :
    ReturnsInHanded {} Try.checked os 10 .any (Rows.fnSunCamsSpec.pre6 enc Try.prog Try.f10 Rows.fnSunCamsRow.domain false) (Rows.fnSunCamsSpec.post enc Try.prog Try.f10 false true false false) := by
  refine returnsInHanded_of_change (C := Try.checked) own started (by kernel_rfl) Try.func10
    (ChangeSpec.witness6 (enc := enc) (C := Try.checked) false ⟨#[], #[.slice none 0 0], []⟩ 8 (by kernel_rfl) (by kernel_rfl) (by kernel_rfl) (by kernel_rfl)) ?_
  intro W base args ds gs before hval0 hW hcnd _
  have hval : ∀ (j : Nat) t v, Try.f10.params[j]? = some t → args[j]? = some v → Value.okWide Try.prog W .any base t v := hval0
  have hW' := hW
  obtain ⟨p, q, hA0, hV, rfl, hfz, hnd⟩ := hW
  have hA : DataW.TrodAll enc Try.prog W 0 (fun _ => true) true Try.f10.params.toList args.toList ds p := hA0
  rw [Try.params10] at hA hval
  obtain ⟨v0, vs0, d0, ds0, p0, q0, hargs, rfl, rfl, h0, r0⟩ := trodAll_cons hA
  obtain ⟨rfl, rfl, rfl⟩ := trodAll_nil r0
  obtain rfl : args = #[v0] := by cases args; simp_all
  obtain ⟨rfl, rfl⟩ := trodVars_none hV
  have k0 := h0
  have lt0 : ∀ x ∈ p0, x.block < W.heap.size := by obtain ⟨m, hm⟩ := k0; exact DataW.trod_lt m _ _ _ hm
  obtain ⟨A0, l0, c0, rfl, R0⟩ := open_Bytes (hval 0 42 v0 rfl rfl) h0
  clear hA0 hval0
  refine (walk A0 l0 c0 W R0).mono fun e W' ⟨he, bel⟩ => ?_
  subst he
  exact ⟨_, rfl, _, _, _, [], _, [], hW', trodAll_mk1 (shut_bool Try.underlying4 _), (trodAll_cons_mk (Below.trod laidOut (by kernel_rfl) (of_decide_eq_true (by kernel_rfl)) k0 bel lt0) trodAll_mk0), rfl, bel.frame _, fun h => by cases h⟩
theorem over : Rows.fnSunCamsRow.holds Try.pinned (OpenSpec.ofChange Rows.fnSunCamsSpec) :=
  OpenClaim.holds_of_wide 10 Try.f10 rfl rfl rfl rfl rfl rfl rfl ⟨rfl, rfl, rfl, rfl, rfl⟩ rfl rfl rfl rfl rfl (by kernel_rfl) Try.func10 (by kernel_rfl)
    (of_decide_eq_true (by kernel_rfl)) (by unfold Func.isWrapper; first | (rw [if_pos (by decide +kernel)]; kernel_rfl) | (rw [if_neg (by decide +kernel)]; exact ⟨rfl, rfl⟩))
    (fun os started H enc _ => lifted os started H enc)
theorem proved : Rows.FnSunCamsSaid := over
#print axioms proved
end Go.Proofs.Ytmmpbbhddhapmaa.fnSunCams
