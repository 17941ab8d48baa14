/- The law FnStrikes returns true for all bytes: strikes in two parts are strikes in one, a whole turn has all blows, and notches are where the strikes end. No conditions. -/
import Derived.Test.YtlnoolnbpohjhaaStrikesPlain
import Derived.Test.YtlnoolnbpohjhaaLiftsPlain
import Derived.Test.YtlnoolnbpohjhaaSliceEq
import Derived.BigQuiet
import Derived.Test.YtlnoolnbpohjhaaDrawStrikes
import Derived.Test.YtlnoolnbpohjhaaRoll
import Derived.Test.YtlnoolnbpohjhaaAppAny
namespace Go.Proofs.Ytlnoolnbpohjhaa.fnStrikes
open Go.ChangeShapes Go.WideShapes Go.ChangeAt Go.RowKit
set_option linter.unusedVariables false
set_option linter.unusedSimpArgs false
theorem f6self_b (A A' : Option Addr) (n n' c c' B B' : Nat) (zs : List Int) (w : World) (h : Ints w B A n zs) (h' : Ints w B' A' n' zs) (hn : n ≤ 9223372036854775807) (hn' : n' ≤ 9223372036854775807) :
    Calls Try.prog 12 #[.slice A n c, .slice A' n' c'] w fun e w' => e = .returned (.bool true) ∧ Below w.heap.size w w' :=
  (f6same_any A A' n n' c c' B B' zs zs w h h' hn hn').mono fun e w' ⟨he, k, hb⟩ => ⟨by rw [he]; simp, by rw [hb]; exact below_drewN (Below.refl _ _) k⟩
set_option maxRecDepth 4000 in
set_option maxHeartbeats 4000000 in
theorem walk (A : Option Addr) (n c : Nat) (w : World) (h : CameB w A n) :
    Calls Try.prog 4 #[.slice A n c] w fun e w' => e = .returned (.bool true) ∧ Below w.heap.size w w' := by
  obtain ⟨hb, hn⟩ := h
  by_cases hbig : (4096 : Int) < n
  · have hd : decide ((4096 : Int) < n) = true := by simpa using hbig
    have cF := fun W => f6big_any A n c W hn
    rw [hd] at cF
    have CF := Lib.hid cF
    clear cF hd hb
    go_enter Try.func4, Try.ntmps4
    go_wp2_with (go_at_call 5; refine (CF.out _).mono ?_; rintro e w' ⟨rfl, rfl⟩)
    go_ret
    exact ⟨rfl, by (repeat (first | with_reducible exact Below.refl _ _ | with_reducible refine below_alloc ?_ _ | with_reducible refine below_drewN ?_ _ | with_reducible refine Below.drew ?_ | ((with_reducible refine below_set ?_ ?_ _); rotate_left; (focus (first | (simp; done) | (simp; omega) | omega))) | with_reducible refine below_call ?_ (by assumption)))⟩
  have hd : decide ((4096 : Int) < n) = false := by simpa using hbig
  have cF := fun W => f6big_any A n c W hn
  rw [hd] at cF
  have CF := Lib.hid cF
  have HB := Lib.hid hb
  clear cF hd hb
  go_enter Try.func4, Try.ntmps4
  go_wp2_with (go_at_call 5; refine (CF.out _).mono ?_; rintro e w' ⟨rfl, rfl⟩)
  go_at_call 16
  refine (DrawStrikeMany_any A n c _ HB.out (by omega)).mono ?_
  rintro e w1 ⟨⟨L, m, d, zs, x, y, rfl, m0, x0, x1, y0, y1, ho⟩, B1⟩
  have zz1 := B1.size
  have rW_1 : Hid (Ints w1 w1.heap.size L m zs) := Lib.hid (ho.ints (Nat.le_refl _))
  have hl : zs.length = m := ho.len
  clear ho
  have cM := fun W (h : Ints W w1.heap.size L m zs) (hB : w1.heap.size ≤ W.heap.size) => StrikeMany_any L m d w1.heap.size zs x y W h hB (by omega)
  have cS := fun W (h : Ints W w1.heap.size L m zs) (hB : w1.heap.size ≤ W.heap.size) => specStrikeMany_any L m d w1.heap.size zs x y W h hB (by omega)
  have cV := fun W (h : Ints W w1.heap.size L m zs) (hB : w1.heap.size ≤ W.heap.size) => ValidCountWheel_any L m d w1.heap.size zs  W h hB (by omega)
  have cU := fun W (h : Ints W w1.heap.size L m zs) (hB : w1.heap.size ≤ W.heap.size) => specValidCountWheel_any L m d w1.heap.size zs  W h hB (by omega)
  have CV := Lib.hid cV
  have CU := Lib.hid cU
  clear cV cU
  rcases sm_cases x y hl with ⟨cd, hcd, hne⟩ | ⟨a, N, hv, rfl, rfl, ha, hm1, hm24, hN, hQ, hX, hC⟩
  · simp only [hcd] at cM cS
    have hQn := smL_len zs m x y
    generalize smL zs m x y = Q at *
    generalize smN zs m x y = nx at *
    generalize vWheel zs = V at *
    have CM := Lib.hid cM
    have CS := Lib.hid cS
    clear cM cS hcd
    go_wp2_with fail
    go_at_call 13
    refine (CM.out _ (by exact Ints.below (rW_1.out) (by (repeat (first | with_reducible exact Below.refl _ _ | with_reducible refine below_alloc ?_ _ | with_reducible refine below_drewN ?_ _ | with_reducible refine Below.drew ?_ | ((with_reducible refine below_set ?_ ?_ _); rotate_left; (focus (first | (simp; done) | (simp; omega) | omega))) | with_reducible refine below_call ?_ (by assumption))))) (by first | omega | (simp; done) | (simp; omega))).mono ?_
    rintro e w2 ⟨A2, n2, c2, rfl, ho2, hb2⟩
    have b2 : Below w1.heap.size w1 w2 := ((Below.refl _ _).alloc (Nat.le_refl _) _).trans (hb2.mono (by simp))
    have xM0_2 : w2.cell? ⟨w1.heap.size, 0, none⟩ = some (.slice L m d) := cell_call hb2 (by simp) (by simp)
    have fM_2 : ∀ o, w2.frozen? ⟨w1.heap.size, o, none⟩ = false := fun o => fro_call hb2 (by simp) (by simp)
    have yM_2 : w1.heap.size < w2.heap.size := by have := hb2.size; simp at this; omega
    have rW_2 : Hid (Ints w2 w1.heap.size L m zs) := Lib.hid (rW_1.out.below (b2.mono (by omega)))
    have B2 : Below w.heap.size w w2 := B1.trans (b2.mono B1.size)
    have zz2 := b2.size
    clear b2 B1 rW_1
    clear hb2
    have len2 := ho2.len
    have rA_2 : Hid (Ints w2 w2.heap.size A2 n2 (Q)) := Lib.hid (ho2.ints (Nat.le_refl _))
    clear ho2
    go_wp2_with fail
    go_at_call 17
    refine (CS.out _ (by exact Ints.below (rW_2.out) (by (repeat (first | with_reducible exact Below.refl _ _ | with_reducible refine below_alloc ?_ _ | with_reducible refine below_drewN ?_ _ | with_reducible refine Below.drew ?_ | ((with_reducible refine below_set ?_ ?_ _); rotate_left; (focus (first | (simp; done) | (simp; omega) | omega))) | with_reducible refine below_call ?_ (by assumption))))) (by first | omega | (simp; done) | (simp; omega))).mono ?_
    rintro e w3 ⟨A3, n3, c3, rfl, ho3, hb3⟩
    have b3 : Below w2.heap.size w2 w3 := hb3
    have xM0_3 : w3.cell? ⟨w1.heap.size, 0, none⟩ = some (.slice L m d) := cell_call b3 yM_2 xM0_2
    have fM_3 : ∀ o, w3.frozen? ⟨w1.heap.size, o, none⟩ = false := fun o => fro_call b3 yM_2 (fM_2 o)
    have yM_3 : w1.heap.size < w3.heap.size := lt_call b3 yM_2
    have rW_3 : Hid (Ints w3 w1.heap.size L m zs) := Lib.hid (rW_2.out.below (b3.mono (by omega)))
    have rA_3 : Hid (Ints w3 w2.heap.size A2 n2 (Q)) := Lib.hid (rA_2.out.below (b3.mono (by omega)))
    have B3 : Below w.heap.size w w3 := B2.trans (b3.mono B2.size)
    have zz3 := b3.size
    clear b3 B2 xM0_2 fM_2 yM_2 rW_2 rA_2
    clear hb3
    have len3 := ho3.len
    have rB_3 : Hid (Ints w3 w3.heap.size A3 n3 (Q)) := Lib.hid (ho3.ints (Nat.le_refl _))
    clear ho3
    have yr := Below.refl w3.heap.size w3
    go_wp2
    go_region_held3 (fun w' => w'.cell? ⟨w1.heap.size, 0, none⟩ = some (.slice L m d) ∧ w1.heap.size < w'.heap.size ∧ Below w.heap.size w w' ∧ Below w3.heap.size w3 w')
      (first | ((try go_split_ands); (try dsimp only); refine ⟨?_, ?_, ?_, ?_⟩ <;> first | (exact cell_call (by assumption) (by assumption) (by assumption)) | (exact lt_call (by assumption) (by assumption)) | (exact below_call' (by assumption) (by assumption)) | (exact Below.drew (by assumption)) | (with_reducible assumption) | assumption | (simp; done) | omega))
      (first
        | (go_at_call 12; refine (f6self_b A2 A3 n2 n3 c2 c3 _ _ _ _ (by refine Ints.below rA_3.out (Below.mono (?_ : Below w3.heap.size w3 _) (by omega)); first | assumption | exact (Below.drew (Below.refl _ _)).trans (by assumption) | exact Below.drew (by assumption) | exact Below.refl _ _ | exact Below.drew (Below.refl _ _) | exact below_call' (by assumption) (by assumption) | exact below_call' (by assumption) ((Below.drew (Below.refl _ _)).trans (by assumption))) (by refine Ints.below rB_3.out (Below.mono (?_ : Below w3.heap.size w3 _) (by omega)); first | assumption | exact (Below.drew (Below.refl _ _)).trans (by assumption) | exact Below.drew (by assumption) | exact Below.refl _ _ | exact Below.drew (Below.refl _ _) | exact below_call' (by assumption) (by assumption) | exact below_call' (by assumption) ((Below.drew (Below.refl _ _)).trans (by assumption))) (by omega) (by omega)).mono ?_; rintro e w4 ⟨rfl, hb4⟩)
        | (go_at_call 18; refine (CV.out _ (by refine Ints.below rW_3.out (Below.mono (?_ : Below w3.heap.size w3 _) (by omega)); first | assumption | exact (Below.drew (Below.refl _ _)).trans (by assumption) | exact Below.drew (by assumption) | exact Below.refl _ _ | exact Below.drew (Below.refl _ _) | exact below_call' (by assumption) (by assumption) | exact below_call' (by assumption) ((Below.drew (Below.refl _ _)).trans (by assumption))) (by first | omega | (simp; done) | (simp; omega))).mono ?_; rintro e w4 ⟨rfl, hb4⟩)
        | (go_at_call 19; refine (CU.out _ (by refine Ints.below rW_3.out (Below.mono (?_ : Below w3.heap.size w3 _) (by omega)); first | assumption | exact (Below.drew (Below.refl _ _)).trans (by assumption) | exact Below.drew (by assumption) | exact Below.refl _ _ | exact Below.drew (Below.refl _ _) | exact below_call' (by assumption) (by assumption) | exact below_call' (by assumption) ((Below.drew (Below.refl _ _)).trans (by assumption))) (by first | omega | (simp; done) | (simp; omega))).mono ?_; rintro e w4 ⟨rfl, hb4⟩))
    go_split_ands
    all_goals
      go_wp2
      go_ret
      exact ⟨rfl, by assumption⟩
  · simp only [hQ, hX, hC] at cM cS
    have hQn : (manyL zs m a N).length ≤ 1048576 := by rw [manyL_len]; omega
    obtain ⟨nx, hnx⟩ : ∃ nx, nx = (a + N) % m := ⟨_, rfl⟩
    have hnm : nx < m := by rw [hnx]; exact Nat.mod_lt _ (by omega)
    rw [← hnx] at cM cS
    have HNX := Lib.hid hnx
    have HV := Lib.hid hv
    have HL := Lib.hid hl
    generalize vWheel zs = V at CV CU
    have CM := Lib.hid cM
    have CS := Lib.hid cS
    clear cM cS hQ hX hC hv hl hnx
    go_wp2_with fail
    go_at_call 13
    refine (CM.out _ (by exact Ints.below (rW_1.out) (by (repeat (first | with_reducible exact Below.refl _ _ | with_reducible refine below_alloc ?_ _ | with_reducible refine below_drewN ?_ _ | with_reducible refine Below.drew ?_ | ((with_reducible refine below_set ?_ ?_ _); rotate_left; (focus (first | (simp; done) | (simp; omega) | omega))) | with_reducible refine below_call ?_ (by assumption))))) (by first | omega | (simp; done) | (simp; omega))).mono ?_
    rintro e w2 ⟨A2, n2, c2, rfl, ho2, hb2⟩
    have b2 : Below w1.heap.size w1 w2 := ((Below.refl _ _).alloc (Nat.le_refl _) _).trans (hb2.mono (by simp))
    have xM0_2 : w2.cell? ⟨w1.heap.size, 0, none⟩ = some (.slice L m d) := cell_call hb2 (by simp) (by simp)
    have fM_2 : ∀ o, w2.frozen? ⟨w1.heap.size, o, none⟩ = false := fun o => fro_call hb2 (by simp) (by simp)
    have yM_2 : w1.heap.size < w2.heap.size := by have := hb2.size; simp at this; omega
    have rW_2 : Hid (Ints w2 w1.heap.size L m zs) := Lib.hid (rW_1.out.below (b2.mono (by omega)))
    have B2 : Below w.heap.size w w2 := B1.trans (b2.mono B1.size)
    have zz2 := b2.size
    clear b2 B1 rW_1
    clear hb2
    have len2 := ho2.len
    have rA_2 : Hid (Ints w2 w2.heap.size A2 n2 (manyL zs m a N)) := Lib.hid (ho2.ints (Nat.le_refl _))
    clear ho2
    go_wp2_with fail
    go_at_call 17
    refine (CS.out _ (by exact Ints.below (rW_2.out) (by (repeat (first | with_reducible exact Below.refl _ _ | with_reducible refine below_alloc ?_ _ | with_reducible refine below_drewN ?_ _ | with_reducible refine Below.drew ?_ | ((with_reducible refine below_set ?_ ?_ _); rotate_left; (focus (first | (simp; done) | (simp; omega) | omega))) | with_reducible refine below_call ?_ (by assumption))))) (by first | omega | (simp; done) | (simp; omega))).mono ?_
    rintro e w3 ⟨A3, n3, c3, rfl, ho3, hb3⟩
    have b3 : Below w2.heap.size w2 w3 := hb3
    have xM0_3 : w3.cell? ⟨w1.heap.size, 0, none⟩ = some (.slice L m d) := cell_call b3 yM_2 xM0_2
    have fM_3 : ∀ o, w3.frozen? ⟨w1.heap.size, o, none⟩ = false := fun o => fro_call b3 yM_2 (fM_2 o)
    have yM_3 : w1.heap.size < w3.heap.size := lt_call b3 yM_2
    have rW_3 : Hid (Ints w3 w1.heap.size L m zs) := Lib.hid (rW_2.out.below (b3.mono (by omega)))
    have rA_3 : Hid (Ints w3 w2.heap.size A2 n2 (manyL zs m a N)) := Lib.hid (rA_2.out.below (b3.mono (by omega)))
    have B3 : Below w.heap.size w w3 := B2.trans (b3.mono B2.size)
    have zz3 := b3.size
    clear b3 B2 xM0_2 fM_2 yM_2 rW_2 rA_2
    clear hb3
    have len3 := ho3.len
    have rB_3 : Hid (Ints w3 w3.heap.size A3 n3 (manyL zs m a N)) := Lib.hid (ho3.ints (Nat.le_refl _))
    clear ho3
    have yr := Below.refl w3.heap.size w3
    go_wp2
    go_region_held3 (fun w' => w'.cell? ⟨w1.heap.size, 0, none⟩ = some (.slice L m d) ∧ w1.heap.size < w'.heap.size ∧ Below w.heap.size w w' ∧ Below w3.heap.size w3 w')
      (first | ((try go_split_ands); (try dsimp only); refine ⟨?_, ?_, ?_, ?_⟩ <;> first | (exact cell_call (by assumption) (by assumption) (by assumption)) | (exact lt_call (by assumption) (by assumption)) | (exact below_call' (by assumption) (by assumption)) | (exact Below.drew (by assumption)) | (with_reducible assumption) | assumption | (simp; done) | omega))
      (first
        | (go_at_call 12; refine (f6self_b A2 A3 n2 n3 c2 c3 _ _ _ _ (by refine Ints.below rA_3.out (Below.mono (?_ : Below w3.heap.size w3 _) (by omega)); first | assumption | exact (Below.drew (Below.refl _ _)).trans (by assumption) | exact Below.drew (by assumption) | exact Below.refl _ _ | exact Below.drew (Below.refl _ _) | exact below_call' (by assumption) (by assumption) | exact below_call' (by assumption) ((Below.drew (Below.refl _ _)).trans (by assumption))) (by refine Ints.below rB_3.out (Below.mono (?_ : Below w3.heap.size w3 _) (by omega)); first | assumption | exact (Below.drew (Below.refl _ _)).trans (by assumption) | exact Below.drew (by assumption) | exact Below.refl _ _ | exact Below.drew (Below.refl _ _) | exact below_call' (by assumption) (by assumption) | exact below_call' (by assumption) ((Below.drew (Below.refl _ _)).trans (by assumption))) (by omega) (by omega)).mono ?_; rintro e w4 ⟨rfl, hb4⟩)
        | (go_at_call 18; refine (CV.out _ (by refine Ints.below rW_3.out (Below.mono (?_ : Below w3.heap.size w3 _) (by omega)); first | assumption | exact (Below.drew (Below.refl _ _)).trans (by assumption) | exact Below.drew (by assumption) | exact Below.refl _ _ | exact Below.drew (Below.refl _ _) | exact below_call' (by assumption) (by assumption) | exact below_call' (by assumption) ((Below.drew (Below.refl _ _)).trans (by assumption))) (by first | omega | (simp; done) | (simp; omega))).mono ?_; rintro e w4 ⟨rfl, hb4⟩)
        | (go_at_call 19; refine (CU.out _ (by refine Ints.below rW_3.out (Below.mono (?_ : Below w3.heap.size w3 _) (by omega)); first | assumption | exact (Below.drew (Below.refl _ _)).trans (by assumption) | exact Below.drew (by assumption) | exact Below.refl _ _ | exact Below.drew (Below.refl _ _) | exact below_call' (by assumption) (by assumption) | exact below_call' (by assumption) ((Below.drew (Below.refl _ _)).trans (by assumption))) (by first | omega | (simp; done) | (simp; omega))).mono ?_; rintro e w4 ⟨rfl, hb4⟩))
    go_split_ands
    all_goals
      have b4 : Below w3.heap.size w3 w4 := by assumption
      have xM0_4 : w4.cell? ⟨w1.heap.size, 0, none⟩ = some (.slice L m d) := cell_call b4 yM_3 xM0_3
      have fM_4 : ∀ o, w4.frozen? ⟨w1.heap.size, o, none⟩ = false := fun o => fro_call b4 yM_3 (fM_3 o)
      have yM_4 : w1.heap.size < w4.heap.size := lt_call b4 yM_3
      have rW_4 : Hid (Ints w4 w1.heap.size L m zs) := Lib.hid (rW_3.out.below (b4.mono (by omega)))
      have rA_4 : Hid (Ints w4 w2.heap.size A2 n2 (manyL zs m a N)) := Lib.hid (rA_3.out.below (b4.mono (by omega)))
      have rB_4 : Hid (Ints w4 w3.heap.size A3 n3 (manyL zs m a N)) := Lib.hid (rB_3.out.below (b4.mono (by omega)))
      have B4 : Below w.heap.size w w4 := B3.trans (b4.mono B3.size)
      have zz4 := b4.size
      clear b4 B3 xM0_3 fM_3 yM_3 rW_3 rA_3 rB_3
      clear hb4 yr
      rw [manyL_len] at len2 len3
      clear len3 rB_4
      subst len2
      have pw : IntKind.i64.wrap ((N : Int) + 1) = (N : Int) + 1 := IntWalk.i64_in _ (by omega)
      go_wp2_with fail
      go_at_call 20
      refine (f6roll_any A n c 2001 _ (Byts.wide (HB.out.below B4) (by omega)) (by omega)).mono ?_
      rintro e w5 ⟨g, rfl, hdi, hg, hb5⟩
      have HD5 := Lib.hid hdi
      clear hdi
      go_wp2_with fail
      go_at_call 21
      refine (below_any A n c g w.heap.size ((N : Int) + 1) _ HD5.out (HB.out.below (B4.trans (hb5.mono B4.size))) (by omega) (by omega) (by omega) (by omega)).mono ?_
      rintro e w6 ⟨⟨P, rfl, hP⟩, hq6⟩
      have b6 : Below w4.heap.size w4 w6 := below_only hb5 hq6 hb5.size hg
      have hPN : P ≤ N := by omega
      obtain ⟨r, hr⟩ : ∃ r, P + r = N := ⟨N - P, by omega⟩
      clear hP pw HD5
      have xM0_6 : w6.cell? ⟨w1.heap.size, 0, none⟩ = some (.slice L m d) := cell_call b6 yM_4 xM0_4
      have fM_6 : ∀ o, w6.frozen? ⟨w1.heap.size, o, none⟩ = false := fun o => fro_call b6 yM_4 (fM_4 o)
      have yM_6 : w1.heap.size < w6.heap.size := lt_call b6 yM_4
      have rW_6 : Hid (Ints w6 w1.heap.size L m zs) := Lib.hid (rW_4.out.below (b6.mono (by omega)))
      have rA_6 : Hid (Ints w6 w2.heap.size A2 N (manyL zs m a N)) := Lib.hid (rA_4.out.below (b6.mono (by omega)))
      have B6 : Below w.heap.size w w6 := B4.trans (b6.mono B4.size)
      have zz6 := b6.size
      clear b6 B4 xM0_4 fM_4 yM_4 rW_4 rA_4
      clear hb5 hq6 hg
      have e1 := sm_at (zs := zs) (k := P) HV.out ha (by omega)
      have cP := fun W (h : Ints W w1.heap.size L m zs) (hB : w1.heap.size ≤ W.heap.size) => StrikeMany_any L m d w1.heap.size zs (a : Int) (P : Int) W h hB (by omega)
      simp only [e1.1, e1.2.1, e1.2.2] at cP
      obtain ⟨J, hJ⟩ : ∃ J, J = (a + P) % m := ⟨_, rfl⟩
      have hJm : J < m := by rw [hJ]; exact Nat.mod_lt _ (by omega)
      rw [← hJ] at cP
      have e2 := sm_at (zs := zs) (k := r) HV.out hJm (by omega)
      have cQ := fun W (h : Ints W w1.heap.size L m zs) (hB : w1.heap.size ≤ W.heap.size) => StrikeMany_any L m d w1.heap.size zs (J : Int) (r : Int) W h hB (by omega)
      simp only [e2.1, e2.2.1, e2.2.2] at cQ
      have hJr : (J + r) % m = nx := by rw [hJ, next_split, hr, HNX.out]
      rw [hJr] at cQ
      have HSP : Hid (([] ++ manyL zs m a P) ++ manyL zs m J r = manyL zs m a N) := Lib.hid (by rw [List.nil_append, hJ, ← many_split, hr])
      have e3 := sm_at (zs := zs) (k := m) HV.out ha (by omega)
      have cT := fun W (h : Ints W w1.heap.size L m zs) (hB : w1.heap.size ≤ W.heap.size) => StrikeMany_any L m d w1.heap.size zs (a : Int) (m : Int) W h hB (by omega)
      simp only [e3.1, e3.2.1, e3.2.2] at cT
      rw [turn_back ha] at cT
      obtain ⟨tt, htt⟩ : ∃ tt, tt = sumK zs m := ⟨_, rfl⟩
      obtain ⟨v1, v2, v3⟩ := vWheel_yes HV.out
      have ttb := sumK_bd v1 m (by rw [HL.out]; exact Nat.le_refl _)
      have nab := sumK_bd v1 a (by rw [HL.out]; omega)
      rw [← htt] at ttb
      clear v1 v2 v3
      have cB := fun W (h : Ints W w1.heap.size L m zs) (hB : w1.heap.size ≤ W.heap.size) => TotalBlows_any L m d w1.heap.size zs W h hB (by omega)
      have cD := fun W (h : Ints W w1.heap.size L m zs) (hB : w1.heap.size ≤ W.heap.size) => specTotalBlows_any L m d w1.heap.size zs W h hB (by omega)
      simp only [tot_yes HV.out, ← htt] at cB cD
      have cN := fun W (h : Ints W w1.heap.size L m zs) (hB : w1.heap.size ≤ W.heap.size) => NotchesOf_any L m d w1.heap.size zs W h hB (by omega)
      simp only [show notL zs m = notchK zs m by simp [notL, HV.out], show notC zs = 0 by simp [notC, HV.out]] at cN
      have cA := fun W (h : Ints W w1.heap.size L m zs) (hB : w1.heap.size ≤ W.heap.size) => NotchAt_any L m d w1.heap.size zs (sumK zs nx) W h hB (by omega)
      simp only [notchAt_sum HV.out HL.out hnm] at cA
      obtain ⟨pl, hpl⟩ : ∃ pl, pl = sumK zs nx := ⟨_, rfl⟩
      rw [← hpl] at cA
      have hplace : (sumK zs a + sumK (manyL zs m a N) N).tmod tt = pl := by rw [htt, hpl, HNX.out]; exact place_at HV.out HL.out ha
      have hturn : sumK (manyL zs m a m) m = tt := by rw [htt]; exact sum_turn zs m a ha
      have HBT := Lib.hid (sum_bd (x := a) (m := m) HV.out HL.out)
      have HBN := Lib.hid (sum_bd (x := a) (m := N) HV.out HL.out)
      have hNK := notchK_getD zs m a ha
      have HNL := Lib.hid (notchK_len zs m)
      have lenP := manyL_len zs m a P
      have lenR := manyL_len zs m J r
      have lenT := manyL_len zs m a m
      obtain ⟨na, hna⟩ : ∃ na, na = sumK zs a := ⟨_, rfl⟩
      rw [← hna] at hNK hplace nab
      have HP := Lib.hid hplace
      have HTU := Lib.hid hturn
      have HNK := Lib.hid hNK
      have HLP := Lib.hid lenP
      have HLR := Lib.hid lenR
      have HLT := Lib.hid lenT
      have CP := Lib.hid cP
      have CQ := Lib.hid cQ
      have CT := Lib.hid cT
      have CB := Lib.hid cB
      have CD := Lib.hid cD
      have CN := Lib.hid cN
      have CA := Lib.hid cA
      have HR := Lib.hid hr
      have s1 : (N : Int) - (P : Int) = (r : Int) := by omega
      have hr5 : r ≤ 500 := by omega
      have s2 : IntKind.i64.wrap (r : Int) = (r : Int) := IntWalk.i64_in _ (by omega)
      have s3 : IntKind.i64.wrap ((N : Int) - (P : Int)) = (r : Int) := by rw [s1, s2]
      clear e1 e2 e3 cP cQ cT cB cD cN cA hJ hJr htt hpl hplace hturn hNK lenP lenR lenT hna hr CM CS CV CU
      go_wp2_with fail
      go_at_call 13
      refine (CP.out _ (by exact Ints.below (rW_6.out) (by (repeat (first | with_reducible exact Below.refl _ _ | with_reducible refine below_alloc ?_ _ | with_reducible refine below_drewN ?_ _ | with_reducible refine Below.drew ?_ | ((with_reducible refine below_set ?_ ?_ _); rotate_left; (focus (first | (simp; done) | (simp; omega) | omega))) | with_reducible refine below_call ?_ (by assumption))))) (by first | omega | (simp; done) | (simp; omega))).mono ?_
      rintro e w7 ⟨A7, n7, c7, rfl, ho7, hb7⟩
      have b7 : Below w6.heap.size w6 w7 := hb7
      have xM0_7 : w7.cell? ⟨w1.heap.size, 0, none⟩ = some (.slice L m d) := cell_call b7 yM_6 xM0_6
      have fM_7 : ∀ o, w7.frozen? ⟨w1.heap.size, o, none⟩ = false := fun o => fro_call b7 yM_6 (fM_6 o)
      have yM_7 : w1.heap.size < w7.heap.size := lt_call b7 yM_6
      have rW_7 : Hid (Ints w7 w1.heap.size L m zs) := Lib.hid (rW_6.out.below (b7.mono (by omega)))
      have rA_7 : Hid (Ints w7 w2.heap.size A2 N (manyL zs m a N)) := Lib.hid (rA_6.out.below (b7.mono (by omega)))
      have B7 : Below w.heap.size w w7 := B6.trans (b7.mono B6.size)
      have zz7 := b7.size
      clear b7 B6 xM0_6 fM_6 yM_6 rW_6 rA_6
      clear hb7
      obtain rfl : P = n7 := (by rw [← ho7.len, HLP.out])
      have rP_7 : Hid (Ints w7 w7.heap.size A7 P (manyL zs m a P)) := Lib.hid (ho7.ints (Nat.le_refl _))
      clear ho7
      go_wp2_with fail
      go_at_call 13
      refine (CQ.out _ (by exact Ints.below (rW_7.out) (by (repeat (first | with_reducible exact Below.refl _ _ | with_reducible refine below_alloc ?_ _ | with_reducible refine below_drewN ?_ _ | with_reducible refine Below.drew ?_ | ((with_reducible refine below_set ?_ ?_ _); rotate_left; (focus (first | (simp; done) | (simp; omega) | omega))) | with_reducible refine below_call ?_ (by assumption))))) (by first | omega | (simp; done) | (simp; omega))).mono ?_
      rintro e w8 ⟨A8, n8, c8, rfl, ho8, hb8⟩
      have b8 : Below w7.heap.size w7 w8 := hb8
      have xM0_8 : w8.cell? ⟨w1.heap.size, 0, none⟩ = some (.slice L m d) := cell_call b8 yM_7 xM0_7
      have fM_8 : ∀ o, w8.frozen? ⟨w1.heap.size, o, none⟩ = false := fun o => fro_call b8 yM_7 (fM_7 o)
      have yM_8 : w1.heap.size < w8.heap.size := lt_call b8 yM_7
      have rW_8 : Hid (Ints w8 w1.heap.size L m zs) := Lib.hid (rW_7.out.below (b8.mono (by omega)))
      have rA_8 : Hid (Ints w8 w2.heap.size A2 N (manyL zs m a N)) := Lib.hid (rA_7.out.below (b8.mono (by omega)))
      have rP_8 : Hid (Ints w8 w7.heap.size A7 P (manyL zs m a P)) := Lib.hid (rP_7.out.below (b8.mono (by omega)))
      have B8 : Below w.heap.size w w8 := B7.trans (b8.mono B7.size)
      have zz8 := b8.size
      clear b8 B7 xM0_7 fM_7 yM_7 rW_7 rA_7 rP_7
      clear hb8
      obtain rfl : r = n8 := (by rw [← ho8.len, HLR.out])
      have rR_8 : Hid (Ints w8 w8.heap.size A8 r (manyL zs m J r)) := Lib.hid (ho8.ints (Nat.le_refl _))
      clear ho8
      go_wp2_with fail
      go_at_call 13
      refine (CT.out _ (by exact Ints.below (rW_8.out) (by (repeat (first | with_reducible exact Below.refl _ _ | with_reducible refine below_alloc ?_ _ | with_reducible refine below_drewN ?_ _ | with_reducible refine Below.drew ?_ | ((with_reducible refine below_set ?_ ?_ _); rotate_left; (focus (first | (simp; done) | (simp; omega) | omega))) | with_reducible refine below_call ?_ (by assumption))))) (by first | omega | (simp; done) | (simp; omega))).mono ?_
      rintro e w9 ⟨A9, n9, c9, rfl, ho9, hb9⟩
      have b9 : Below w8.heap.size w8 w9 := hb9
      have xM0_9 : w9.cell? ⟨w1.heap.size, 0, none⟩ = some (.slice L m d) := cell_call b9 yM_8 xM0_8
      have fM_9 : ∀ o, w9.frozen? ⟨w1.heap.size, o, none⟩ = false := fun o => fro_call b9 yM_8 (fM_8 o)
      have yM_9 : w1.heap.size < w9.heap.size := lt_call b9 yM_8
      have rW_9 : Hid (Ints w9 w1.heap.size L m zs) := Lib.hid (rW_8.out.below (b9.mono (by omega)))
      have rA_9 : Hid (Ints w9 w2.heap.size A2 N (manyL zs m a N)) := Lib.hid (rA_8.out.below (b9.mono (by omega)))
      have rP_9 : Hid (Ints w9 w7.heap.size A7 P (manyL zs m a P)) := Lib.hid (rP_8.out.below (b9.mono (by omega)))
      have rR_9 : Hid (Ints w9 w8.heap.size A8 r (manyL zs m J r)) := Lib.hid (rR_8.out.below (b9.mono (by omega)))
      have B9 : Below w.heap.size w w9 := B8.trans (b9.mono B8.size)
      have zz9 := b9.size
      clear b9 B8 xM0_8 fM_8 yM_8 rW_8 rA_8 rP_8 rR_8
      clear hb9
      obtain rfl : m = n9 := (by rw [← ho9.len, HLT.out])
      have rT_9 : Hid (Ints w9 w9.heap.size A9 m (manyL zs m a m)) := Lib.hid (ho9.ints (Nat.le_refl _))
      clear ho9
      go_wp2_with fail
      go_at_call 22
      refine (CB.out _ (by exact Ints.below (rW_9.out) (by (repeat (first | with_reducible exact Below.refl _ _ | with_reducible refine below_alloc ?_ _ | with_reducible refine below_drewN ?_ _ | with_reducible refine Below.drew ?_ | ((with_reducible refine below_set ?_ ?_ _); rotate_left; (focus (first | (simp; done) | (simp; omega) | omega))) | with_reducible refine below_call ?_ (by assumption))))) (by first | omega | (simp; done) | (simp; omega))).mono ?_
      rintro e w10 ⟨rfl, hb10⟩
      have b10 : Below w9.heap.size w9 w10 := hb10
      have xM0_10 : w10.cell? ⟨w1.heap.size, 0, none⟩ = some (.slice L m d) := cell_call b10 yM_9 xM0_9
      have fM_10 : ∀ o, w10.frozen? ⟨w1.heap.size, o, none⟩ = false := fun o => fro_call b10 yM_9 (fM_9 o)
      have yM_10 : w1.heap.size < w10.heap.size := lt_call b10 yM_9
      have rW_10 : Hid (Ints w10 w1.heap.size L m zs) := Lib.hid (rW_9.out.below (b10.mono (by omega)))
      have rA_10 : Hid (Ints w10 w2.heap.size A2 N (manyL zs m a N)) := Lib.hid (rA_9.out.below (b10.mono (by omega)))
      have rP_10 : Hid (Ints w10 w7.heap.size A7 P (manyL zs m a P)) := Lib.hid (rP_9.out.below (b10.mono (by omega)))
      have rR_10 : Hid (Ints w10 w8.heap.size A8 r (manyL zs m J r)) := Lib.hid (rR_9.out.below (b10.mono (by omega)))
      have rT_10 : Hid (Ints w10 w9.heap.size A9 m (manyL zs m a m)) := Lib.hid (rT_9.out.below (b10.mono (by omega)))
      have B10 : Below w.heap.size w w10 := B9.trans (b10.mono B9.size)
      have zz10 := b10.size
      clear b10 B9 xM0_9 fM_9 yM_9 rW_9 rA_9 rP_9 rR_9 rT_9
      clear hb10
      go_wp2_with fail
      go_at_call 23
      refine (CN.out _ (by exact Ints.below (rW_10.out) (by (repeat (first | with_reducible exact Below.refl _ _ | with_reducible refine below_alloc ?_ _ | with_reducible refine below_drewN ?_ _ | with_reducible refine Below.drew ?_ | ((with_reducible refine below_set ?_ ?_ _); rotate_left; (focus (first | (simp; done) | (simp; omega) | omega))) | with_reducible refine below_call ?_ (by assumption))))) (by first | omega | (simp; done) | (simp; omega))).mono ?_
      rintro e w11 ⟨A11, n11, c11, rfl, ho11, hb11⟩
      have b11 : Below w10.heap.size w10 w11 := hb11
      have xM0_11 : w11.cell? ⟨w1.heap.size, 0, none⟩ = some (.slice L m d) := cell_call b11 yM_10 xM0_10
      have fM_11 : ∀ o, w11.frozen? ⟨w1.heap.size, o, none⟩ = false := fun o => fro_call b11 yM_10 (fM_10 o)
      have yM_11 : w1.heap.size < w11.heap.size := lt_call b11 yM_10
      have rW_11 : Hid (Ints w11 w1.heap.size L m zs) := Lib.hid (rW_10.out.below (b11.mono (by omega)))
      have rA_11 : Hid (Ints w11 w2.heap.size A2 N (manyL zs m a N)) := Lib.hid (rA_10.out.below (b11.mono (by omega)))
      have rP_11 : Hid (Ints w11 w7.heap.size A7 P (manyL zs m a P)) := Lib.hid (rP_10.out.below (b11.mono (by omega)))
      have rR_11 : Hid (Ints w11 w8.heap.size A8 r (manyL zs m J r)) := Lib.hid (rR_10.out.below (b11.mono (by omega)))
      have rT_11 : Hid (Ints w11 w9.heap.size A9 m (manyL zs m a m)) := Lib.hid (rT_10.out.below (b11.mono (by omega)))
      have B11 : Below w.heap.size w w11 := B10.trans (b11.mono B10.size)
      have zz11 := b11.size
      clear b11 B10 xM0_10 fM_10 yM_10 rW_10 rA_10 rP_10 rR_10 rT_10
      clear hb11
      obtain rfl : m = n11 := (by rw [← ho11.len, HNL.out])
      have rK_11 : Hid (Ints w11 w11.heap.size A11 m (notchK zs m)) := Lib.hid (ho11.ints (Nat.le_refl _))
      clear ho11
      go_wp2_with fail
      go_at_call 24
      refine (CD.out _ (by exact Ints.below (rW_11.out) (by (repeat (first | with_reducible exact Below.refl _ _ | with_reducible refine below_alloc ?_ _ | with_reducible refine below_drewN ?_ _ | with_reducible refine Below.drew ?_ | ((with_reducible refine below_set ?_ ?_ _); rotate_left; (focus (first | (simp; done) | (simp; omega) | omega))) | with_reducible refine below_call ?_ (by assumption))))) (by first | omega | (simp; done) | (simp; omega))).mono ?_
      rintro e w12 ⟨rfl, hb12⟩
      have b12 : Below w11.heap.size w11 w12 := hb12
      have xM0_12 : w12.cell? ⟨w1.heap.size, 0, none⟩ = some (.slice L m d) := cell_call b12 yM_11 xM0_11
      have fM_12 : ∀ o, w12.frozen? ⟨w1.heap.size, o, none⟩ = false := fun o => fro_call b12 yM_11 (fM_11 o)
      have yM_12 : w1.heap.size < w12.heap.size := lt_call b12 yM_11
      have rW_12 : Hid (Ints w12 w1.heap.size L m zs) := Lib.hid (rW_11.out.below (b12.mono (by omega)))
      have rA_12 : Hid (Ints w12 w2.heap.size A2 N (manyL zs m a N)) := Lib.hid (rA_11.out.below (b12.mono (by omega)))
      have rP_12 : Hid (Ints w12 w7.heap.size A7 P (manyL zs m a P)) := Lib.hid (rP_11.out.below (b12.mono (by omega)))
      have rR_12 : Hid (Ints w12 w8.heap.size A8 r (manyL zs m J r)) := Lib.hid (rR_11.out.below (b12.mono (by omega)))
      have rT_12 : Hid (Ints w12 w9.heap.size A9 m (manyL zs m a m)) := Lib.hid (rT_11.out.below (b12.mono (by omega)))
      have rK_12 : Hid (Ints w12 w11.heap.size A11 m (notchK zs m)) := Lib.hid (rK_11.out.below (b12.mono (by omega)))
      have B12 : Below w.heap.size w w12 := B11.trans (b12.mono B11.size)
      have zz12 := b12.size
      clear b12 B11 xM0_11 fM_11 yM_11 rW_11 rA_11 rP_11 rR_11 rT_11 rK_11
      clear hb12
      have ttn : ¬ (tt = 0) := by omega
      have ttq : (tt == 0) = false := by simpa using ttn
      clear s1 s2 s3
      go_wp2
      obtain ⟨T, hT⟩ : ∃ T, T = manyL zs m a m := ⟨_, rfl⟩
      have HTT := Lib.hid hT
      clear hT
      go_loopw [28, 29] (fun s t wr => ∃ k : Nat, s = .int .i64 (sumK (manyL zs m a m) k) ∧ t = .int .i64 (k : Int) ∧ k ≤ m ∧ w12 = wr) (fun _ t _ => m - (intOf t).toNat)
      case atStart => exact ⟨0, rfl, rfl, by omega, rfl⟩
      case round =>
        obtain ⟨k, rfl, rfl, hk, hw⟩ := hrel
        subst hw
        have q0 := HBT.out k hk
        by_cases hlt : k < m
        · have hlt2 : (k : Int) < (m : Int) := by omega
          have q1 := HBT.out (k + 1) (by omega)
          have e : sumK (manyL zs m a m) (k + 1) = sumK (manyL zs m a m) k + (manyL zs m a m).getD k 0 := rfl
          obtain ⟨bb, oo, rfl, hbb, hcc⟩ := rT_12.out.at_ hlt
          have i0 : (0 : Int) ≤ (k : Int) := Int.natCast_nonneg _
          rw [e] at q1
          have HE := Lib.hid e
          clear e
          obtain ⟨v, hv⟩ : ∃ v, (manyL zs m a m).getD k 0 = v := ⟨_, rfl⟩
          rw [hv] at hcc q1
          have HVV := Lib.hid hv
          clear hv
          obtain ⟨sk, hsk⟩ : ∃ sk, sumK (manyL zs m a m) k = sk := ⟨_, rfl⟩
          rw [hsk] at q0 q1 ⊢
          have HSK := Lib.hid hsk
          clear hsk
          have qw : IntKind.i64.wrap (sk + v) = sk + v := IntWalk.i64_in _ (by omega)
          go_wp2
          go_roundw
          case rel => exact ⟨k + 1, by rw [HE.out, HSK.out, HVV.out], by go_num, by omega, by first | rfl | trivial⟩
          case measure => simp [intOf]; omega
        · have hlt2 : ¬ ((k : Int) < (m : Int)) := by omega
          have hkn : k = m := by omega
          have hk2 : sumK (manyL zs m a m) k = tt := by rw [hkn]; exact HTU.out
          rw [hk2]
          clear hk2 q0 hkn hk hlt HTT HTU HBT rT_12
          generalize (k : Int) = kk at hlt2 ⊢
          go_wp2
          obtain ⟨T, hT⟩ : ∃ T, T = manyL zs m a N := ⟨_, rfl⟩
          have HTT := Lib.hid hT
          clear hT
          go_loopw [30, 31] (fun s t wr => ∃ k : Nat, s = .int .i64 (sumK (manyL zs m a N) k) ∧ t = .int .i64 (k : Int) ∧ k ≤ N ∧ w12 = wr) (fun _ t _ => N - (intOf t).toNat)
          case atStart => exact ⟨0, rfl, rfl, by omega, rfl⟩
          case round =>
            obtain ⟨k, rfl, rfl, hk, hw⟩ := hrel
            subst hw
            have q0 := HBN.out k hk
            by_cases hlt : k < N
            · have hlt2 : (k : Int) < (N : Int) := by omega
              have q1 := HBN.out (k + 1) (by omega)
              have e : sumK (manyL zs m a N) (k + 1) = sumK (manyL zs m a N) k + (manyL zs m a N).getD k 0 := rfl
              obtain ⟨bb, oo, rfl, hbb, hcc⟩ := rA_12.out.at_ hlt
              have i0 : (0 : Int) ≤ (k : Int) := Int.natCast_nonneg _
              rw [e] at q1
              have HE := Lib.hid e
              clear e
              obtain ⟨v, hv⟩ : ∃ v, (manyL zs m a N).getD k 0 = v := ⟨_, rfl⟩
              rw [hv] at hcc q1
              have HVV := Lib.hid hv
              clear hv
              obtain ⟨sk, hsk⟩ : ∃ sk, sumK (manyL zs m a N) k = sk := ⟨_, rfl⟩
              rw [hsk] at q0 q1 ⊢
              have HSK := Lib.hid hsk
              clear hsk
              have qw : IntKind.i64.wrap (sk + v) = sk + v := IntWalk.i64_in _ (by omega)
              go_wp2
              go_roundw
              case rel => exact ⟨k + 1, by rw [HE.out, HSK.out, HVV.out], by go_num, by omega, by first | rfl | trivial⟩
              case measure => simp [intOf]; omega
            · have hlt2 : ¬ ((k : Int) < (N : Int)) := by omega
              have hkn : k = N := by omega
              have hk2 : sumK (manyL zs m a N) k = sumK (manyL zs m a N) N := by rw [hkn]
              rw [hk2]
              have q2 := HBN.out N (Nat.le_refl _)
              have hpp := HP.out
              obtain ⟨sn, hsn⟩ : ∃ sn, sumK (manyL zs m a N) N = sn := ⟨_, rfl⟩
              rw [hsn] at q2 hpp ⊢
              clear hk2 hsn q0 hkn HTT HBN HP
              have hkc := rK_12.out
              obtain ⟨bb, oo, rfl, hbb, hcc⟩ := hkc.at_ ha
              rw [HNK.out] at hcc
              have i0 : (0 : Int) ≤ (a : Int) := Int.natCast_nonneg _
              have i1 : (a : Int) < (m : Int) := by omega
              have t1 : IntKind.i64.wrap (na + sn) = na + sn := IntWalk.i64_in _ (by omega)
              have t2 : IntKind.i64.wrap pl = pl := IntWalk.i64_in _ (by have h1 := Int.tmod_lt_of_pos (na + sn) (show 0 < tt by omega); have h2 := Int.tmod_nonneg tt (show 0 ≤ na + sn by omega); rw [hpp] at h1 h2; omega)
              have t3 : IntKind.i64.wrap ((na + sn).tmod tt) = pl := by rw [hpp, t2]
              have ttm : ¬ (tt = -1) := by omega
              clear hkc rK_12
              generalize (k : Int) = k9 at hlt2 ⊢
              go_wp2_with fail
              go_at_call 25
              refine (CA.out _ (by exact Ints.below (rW_12.out) (by (repeat (first | with_reducible exact Below.refl _ _ | with_reducible refine below_alloc ?_ _ | with_reducible refine below_drewN ?_ _ | with_reducible refine Below.drew ?_ | ((with_reducible refine below_set ?_ ?_ _); rotate_left; (focus (first | (simp; done) | (simp; omega) | omega))) | with_reducible refine below_call ?_ (by assumption))))) (by first | omega | (simp; done) | (simp; omega))).mono ?_
              rintro e w13 ⟨rfl, hb13⟩
              have b13 : Below w12.heap.size w12 w13 := hb13
              have xM0_13 : w13.cell? ⟨w1.heap.size, 0, none⟩ = some (.slice L m d) := cell_call b13 yM_12 xM0_12
              have fM_13 : ∀ o, w13.frozen? ⟨w1.heap.size, o, none⟩ = false := fun o => fro_call b13 yM_12 (fM_12 o)
              have yM_13 : w1.heap.size < w13.heap.size := lt_call b13 yM_12
              have rW_13 : Hid (Ints w13 w1.heap.size L m zs) := Lib.hid (rW_12.out.below (b13.mono (by omega)))
              have rA_13 : Hid (Ints w13 w2.heap.size A2 N (manyL zs m a N)) := Lib.hid (rA_12.out.below (b13.mono (by omega)))
              have rP_13 : Hid (Ints w13 w7.heap.size A7 P (manyL zs m a P)) := Lib.hid (rP_12.out.below (b13.mono (by omega)))
              have rR_13 : Hid (Ints w13 w8.heap.size A8 r (manyL zs m J r)) := Lib.hid (rR_12.out.below (b13.mono (by omega)))
              have B13 : Below w.heap.size w w13 := B12.trans (b13.mono B12.size)
              have zz13 := b13.size
              clear b13 B12 xM0_12 fM_12 yM_12 rW_12 rA_12 rP_12 rR_12
              clear hb13
              have RP : Hid (Ints (w13.alloc (.cells #[] 2)) w7.heap.size A7 P (manyL zs m a P)) := Lib.hid (rP_13.out.alloc (by omega) _)
              go_wp2_with (first | (at_builtin; refine wpList_appAny rfl _ _ rfl _ w13.heap.size w7.heap.size _ A7 _ _ P _ [] (manyL zs m a P) rfl rfl (own_empty rfl (Nat.le_refl _)) RP.out (by omega) (by simp) ?_; intro A14 c14 w14 ho14 hb14; have b14 : Below w13.heap.size w13 w14 := ((Below.refl _ _).alloc (Nat.le_refl _) _).trans hb14; have z14 := b14.size; have RR : Hid (Ints w14 w8.heap.size A8 r (manyL zs m J r)) := Lib.hid (rR_13.out.below (b14.mono (by omega))); have HO14 := Lib.hid ho14; clear ho14 hb14) | (at_builtin; refine wpList_appAny rfl _ _ rfl _ w13.heap.size w8.heap.size A14 A8 _ c14 r _ ([] ++ manyL zs m a P) (manyL zs m J r) rfl rfl (by simpa using HO14.out) RR.out (by omega) (by omega) ?_; intro A15 c15 w15 ho15 hb15; have b15 : Below w13.heap.size w13 w15 := b14.trans hb15; have z15 := b15.size; rw [HSP.out] at ho15; have I15 := Lib.hid (ho15.ints (Nat.le_refl _)); have I16 : Hid (Ints w15 w2.heap.size A2 N (manyL zs m a N)) := Lib.hid (rA_13.out.below (b15.mono (by omega))); clear ho15 hb15) | (go_at_call 12; refine (f6self_b A15 A2 _ N c15 c2 w15.heap.size w2.heap.size (manyL zs m a N) _ I15.out I16.out (by omega) (by omega)).mono ?_; rintro e w16 ⟨rfl, hb16⟩; have B16 : Below w.heap.size w w16 := B13.trans ((b15.trans (hb16.mono z15)).mono B13.size)) | fail)
              go_ret
              exact ⟨rfl, B16⟩

set_option maxRecDepth 100000 in
theorem lifted (os : Os) (started : os.Started) (H : Type) (enc : TypeId × Value → H) :
    ReturnsInHanded {} Try.checked os 4 .any (Rows.fnStrikesSpec.pre6 enc Try.prog Try.f4 Rows.fnStrikesRow.domain false) (Rows.fnStrikesSpec.post enc Try.prog Try.f4 false true false false) := by
  refine returnsInHanded_of_change (C := Try.checked) own started (by kernel_rfl) Try.func4
    (ChangeSpec.witness6 (enc := enc) (C := Try.checked) false ⟨#[], #[.slice none 0 0], []⟩ 8 (by kernel_rfl) (by kernel_rfl) (by kernel_rfl) (by kernel_rfl)) ?_
  intro W base args ds gs before hval0 hW hcnd _
  have hval : ∀ (j : Nat) t v, Try.f4.params[j]? = some t → args[j]? = some v → Value.okWide Try.prog W .any base t v := hval0
  have hW' := hW
  obtain ⟨p, q, hA0, hV, rfl, hfz, hnd⟩ := hW
  have hA : DataW.TrodAll enc Try.prog W 0 (fun _ => true) true Try.f4.params.toList args.toList ds p := hA0
  rw [Try.params4] at hA hval
  obtain ⟨v0, vs0, d0, ds0, p0, q0, hargs, rfl, rfl, h0, r0⟩ := trodAll_cons hA
  obtain ⟨rfl, rfl, rfl⟩ := trodAll_nil r0
  obtain rfl : args = #[v0] := by cases args; simp_all
  obtain ⟨rfl, rfl⟩ := trodVars_none hV
  have k0 := h0
  have lt0 : ∀ x ∈ p0, x.block < W.heap.size := by obtain ⟨m, hm⟩ := k0; exact DataW.trod_lt m _ _ _ hm
  obtain ⟨A0, l0, c0, rfl, R0⟩ := open_Bytes (hval 0 22 v0 rfl rfl) h0
  clear hA0 hval0
  refine (walk A0 l0 c0 W R0).mono fun e W' ⟨he, bel⟩ => ?_
  subst he
  exact ⟨_, rfl, _, _, _, [], _, [], hW', trodAll_mk1 (shut_bool Try.underlying4 _), (trodAll_cons_mk (Below.trod laidOut (by kernel_rfl) (of_decide_eq_true (by kernel_rfl)) k0 bel lt0) trodAll_mk0), rfl, bel.frame _, fun h => by cases h⟩
theorem over : Rows.fnStrikesRow.holds Try.pinned (OpenSpec.ofChange Rows.fnStrikesSpec) :=
  OpenClaim.holds_of_wide 4 Try.f4 rfl rfl rfl rfl rfl rfl rfl ⟨rfl, rfl, rfl, rfl, rfl⟩ rfl rfl rfl rfl rfl (by kernel_rfl) Try.func4 (by kernel_rfl)
    (of_decide_eq_true (by kernel_rfl)) (by unfold Func.isWrapper; first | (rw [if_pos (by decide +kernel)]; kernel_rfl) | (rw [if_neg (by decide +kernel)]; exact ⟨rfl, rfl⟩))
    (fun os started H enc _ => lifted os started H enc)
theorem proved : Rows.FnStrikesSaid := over
#print axioms proved
end Go.Proofs.Ytlnoolnbpohjhaa.fnStrikes
