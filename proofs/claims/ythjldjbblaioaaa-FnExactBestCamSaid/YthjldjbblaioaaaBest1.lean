/- Contracts of what counts the faults of a cam and of what asks for the years of a cam, the program's and the reference's. No conditions but those of a valid calendar and of a cam that belongs to it. -/
import Derived.Test.YthjldjbblaioaaaBest0
import Derived.Deep.RegionHeld3
import Derived.BigQuiet
namespace Go.Proofs.Ythjldjbblaioaaa
open Go.RowKit
set_option linter.unusedVariables false
set_option linter.unusedSimpArgs false
theorem gcd_nat (a b : Nat) : (Int.gcd (a : Int) (b : Int) : Int) = ((Nat.gcd a b : Nat) : Int) := by rw [Int.gcd_natCast_natCast]
theorem gcd_facts {k cy : Nat} (hk : 1 ≤ k) (hk2 : k ≤ 260) (hc : cy ≤ 2000) : 1 ≤ Nat.gcd k cy ∧ Nat.gcd k cy ≤ 260 ∧ k / Nat.gcd k cy ≤ 260 := by
  have h1 : 0 < Nat.gcd k cy := Nat.gcd_pos_of_pos_left _ hk
  have h2 := Nat.le_of_dvd hk (Nat.gcd_dvd_left k cy)
  exact ⟨h1, by omega, Nat.le_trans (Nat.div_le_self _ _) hk2⟩
set_option maxHeartbeats 1000000 in
theorem notched_any (nm : ByteArray) (A A' : Option Addr) (n n' c c' : Nat) (cw y : Int) (w : World) (hn : 1 ≤ n) (hn2 : n ≤ 1048576) :
    Calls Try.prog 63 #[.agg #[.string nm, .slice A n c, .slice A' n' c', .int .i64 cw], .int .i64 y] w fun e w' => e = .returned (.bool (inB y 1 ((260 / n : Nat) : Int))) ∧ Below w.heap.size w w' := by
  have t1 : (260 : Int).tdiv (n : Int) = ((260 / n : Nat) : Int) := nat_tdiv 260 n
  have t2 : (260 : Int) / (n : Int) = ((260 / n : Nat) : Int) := (Int.natCast_ediv 260 n).symm
  have e0 : ¬ ((n : Int) = 0) := by omega
  have e1 : ((n : Int) == 0) = false := by rw [beq_eq_false_iff_ne]; omega
  have e2 : ¬ (n = 0) := by omega
  have hq : 260 / n ≤ 260 := Nat.div_le_self _ _
  generalize 260 / n = Q at *
  have r1 : IntKind.i64.wrap (Q : Int) = (Q : Int) := IntWalk.i64_in _ (by omega)
  obtain ⟨v, hv⟩ : ∃ v, inB y 1 (Q : Int) = v := ⟨_, rfl⟩
  rw [hv]
  have Y := Lib.hid hv
  clear hv
  go_enter Try.func63, Try.ntmps63
  go_wp2_with (go_at_call 43; refine (within_val _ _ _ _ _ Y.out).mono ?_; rintro e w' ⟨rfl, rfl⟩)
  go_ret
  exact ⟨rfl, by (repeat (first | with_reducible exact Below.refl _ _ | with_reducible refine below_alloc ?_ _ | with_reducible refine below_drewN ?_ _ | with_reducible refine Below.drew ?_ | ((with_reducible refine below_set ?_ ?_ _); rotate_left; (focus (first | (simp; done) | (simp; omega) | omega))) | with_reducible refine below_call ?_ (by assumption)))⟩
theorem years_iff {y : Int} {n : Nat} (hn : 1 ≤ n) : inB y 1 ((260 / n : Nat) : Int) = (inB y 1 260 && decide (y * (n : Int) ≤ 260)) := by
  have hq : 260 / n ≤ 260 := Nat.div_le_self _ _
  by_cases h1 : 1 ≤ y
  · obtain ⟨k, rfl⟩ := Int.eq_ofNat_of_zero_le (show 0 ≤ y by omega)
    have h2 := div_le_bd (y := k) hn
    have e : (k : Int) * (n : Int) = ((k * n : Nat) : Int) := by push_cast; rfl
    rw [e]
    unfold inB
    rw [Bool.eq_iff_iff]
    simp only [Bool.and_eq_true, decide_eq_true_eq]
    omega
  · unfold inB
    simp [h1]
set_option maxHeartbeats 2000000 in
theorem l17Years_any (g : Nat) (nm : ByteArray) (A A' : Option Addr) (n n' c c' : Nat) (cw y : Int) (w : World) (hC : CalAt w g nm A A' n n' c c' cw) (hn : 1 ≤ n) (hn2 : n ≤ 1048576) :
    Calls Try.prog 57 #[.pointer (some ⟨g, 0, none⟩), .int .i64 y] w fun e w' => e = .returned (.bool (inB y 1 ((260 / n : Nat) : Int))) ∧ Below w.heap.size w w' := by
  have k1 := hC.c1
  have zg := hC.lt
  rw [years_iff hn]
  cases v1 : inB y 1 260
  · have Y := Lib.hid v1
    clear v1
    go_enter Try.func57, Try.ntmps57
    go_wp2_with (go_at_call 81; refine (l00In_val _ _ _ _ _ Y.out).mono ?_; rintro e w' ⟨rfl, rfl⟩)
    go_ret
    exact ⟨rfl, by (repeat (first | with_reducible exact Below.refl _ _ | with_reducible refine below_alloc ?_ _ | with_reducible refine below_drewN ?_ _ | with_reducible refine Below.drew ?_ | ((with_reducible refine below_set ?_ ?_ _); rotate_left; (focus (first | (simp; done) | (simp; omega) | omega))) | with_reducible refine below_call ?_ (by assumption)))⟩
  · have Y := Lib.hid v1
    have y1 := inB_yes v1
    have b1 : y * (n : Int) ≤ 260 * (n : Int) := Int.mul_le_mul_of_nonneg_right y1.2 (by omega)
    have b2 : 0 ≤ y * (n : Int) := Int.mul_nonneg (by omega) (by omega)
    have s1 : IntKind.i64.wrap (y * (n : Int)) = y * (n : Int) := IntWalk.i64_in _ (by omega)
    clear v1
    by_cases h : y * (n : Int) ≤ 260
    · go_enter Try.func57, Try.ntmps57
      go_wp2_with (go_at_call 81; refine (l00In_val _ _ _ _ _ Y.out).mono ?_; rintro e w' ⟨rfl, rfl⟩)
      go_ret
      exact ⟨by simp [h], by (repeat (first | with_reducible exact Below.refl _ _ | with_reducible refine below_alloc ?_ _ | with_reducible refine below_drewN ?_ _ | with_reducible refine Below.drew ?_ | ((with_reducible refine below_set ?_ ?_ _); rotate_left; (focus (first | (simp; done) | (simp; omega) | omega))) | with_reducible refine below_call ?_ (by assumption)))⟩
    · go_enter Try.func57, Try.ntmps57
      go_wp2_with (go_at_call 81; refine (l00In_val _ _ _ _ _ Y.out).mono ?_; rintro e w' ⟨rfl, rfl⟩)
      go_ret
      exact ⟨by simp [h], by (repeat (first | with_reducible exact Below.refl _ _ | with_reducible refine below_alloc ?_ _ | with_reducible refine below_drewN ?_ _ | with_reducible refine Below.drew ?_ | ((with_reducible refine below_set ?_ ?_ _); rotate_left; (focus (first | (simp; done) | (simp; omega) | omega))) | with_reducible refine below_call ?_ (by assumption)))⟩
set_option maxHeartbeats 2000000 in
theorem l17Common_any (g : Nat) (nm : ByteArray) (A A' : Option Addr) (n n' c c' B : Nat) (ms : List Mth) (rs : List Rul) (cw : Int) (s : Nat) (w : World) (hC : CalAt w g nm A A' n n' c c' cw) (h' : Rules w B A' n' rs) (hB : B ≤ w.heap.size) (hn' : n' ≤ 1048576) (hv : vCal nm n n' ms rs cw = true) (hs : 1 ≤ s) (hs2 : s ≤ 260) :
    Calls Try.prog 58 #[.pointer (some ⟨g, 0, none⟩), .int .i64 (s : Int)] w fun e w' => e = .returned (.int .i64 (comN s (cycK rs n').toNat : Nat)) ∧ Below w.heap.size w w' := by
  have k1 := hC.c2
  have zg := hC.lt
  obtain ⟨cy, hcy, c1, c2⟩ := vCal_cyc hv
  obtain ⟨g1, g2, g3⟩ := gcd_facts (k := s) (cy := cy) hs hs2 c2
  have h1 := comN_alt s cy
  have hb := comN_bd (k := s) (cy := cy) hs2 c2
  have t1 : (cy : Int).tdiv ((Nat.gcd cy s : Nat) : Int) = ((cy / Nat.gcd cy s : Nat) : Int) := nat_tdiv _ _
  have t2 : (cy : Int) / ((Nat.gcd cy s : Nat) : Int) = ((cy / Nat.gcd cy s : Nat) : Int) := (Int.natCast_ediv _ _).symm
  have hd : cy / Nat.gcd cy s ≤ cy := Nat.div_le_self _ _
  rw [Nat.gcd_comm] at g1 g2
  have CG := Lib.hid (fun (W : World) => (show Calls Try.prog 110 #[.int .i64 (cy : Int), .int .i64 (s : Int)] W fun e w' => e = .returned (.int .i64 ((Nat.gcd cy s : Nat) : Int)) ∧ W = w' by rw [← gcd_nat]; exact l02Gcd_any (cy : Int) (s : Int) W (by omega) (by omega) (by omega) (by omega)))
  have CY := Lib.hid (fun (W : World) (hb : Below w.heap.size w W) => (l15Years_any A' n' c' w.heap.size rs W (Tri.below (Tri.more h' hB) hb) hb.size (by omega) (fun j hj => by have := (vCal_evs hv j hj).1; omega)).mono (fun e w' (h9 : Yrs W rs n' e w') => (show e = .returned (.tuple #[.int .i64 (cy : Int), .bool true]) ∧ Below W.heap.size W w' by
    obtain ⟨x, he, hx, hbl⟩ := h9
    have hr : vRules rs n' = true := by
      unfold vCal at hv
      rw [Bool.and_eq_true, Bool.and_eq_true, Bool.and_eq_true] at hv
      exact hv.1.1.1
    rw [hr] at he
    rw [hx hr, hcy] at he
    exact ⟨he, hbl⟩)))
  rw [hcy, Int.toNat_natCast]
  generalize comN s cy = X at *
  generalize Nat.gcd cy s = G at *
  generalize cy / G = Q at *
  have hX : (Q : Int) * (s : Int) = (X : Int) := by rw [← h1]; push_cast; rfl
  have e0 : ¬ ((G : Int) = 0) := by omega
  have e1 : ((G : Int) == 0) = false := by rw [beq_eq_false_iff_ne]; omega
  have e2 : ¬ (G = 0) := by omega
  have r1 : IntKind.i64.wrap (Q : Int) = (Q : Int) := IntWalk.i64_in _ (by omega)
  have r2 : IntKind.i64.wrap ((Q : Int) * (s : Int)) = (X : Int) := by rw [hX]; exact IntWalk.i64_in _ (by omega)
  have r3 : IntKind.i64.wrap (X : Int) = (X : Int) := IntWalk.i64_in _ (by omega)
  clear hv h1 hcy
  go_enter Try.func58, Try.ntmps58
  go_wp2_with (first | (go_at_call 102; refine (CY.out _ (Below.refl _ _)).mono ?_; rintro e w1 ⟨rfl, hb1⟩) | (go_at_call 110; refine (CG.out _).mono ?_; rintro e w' ⟨rfl, rfl⟩) | fail)
  go_ret
  exact ⟨rfl, by (repeat (first | with_reducible exact Below.refl _ _ | with_reducible refine below_alloc ?_ _ | with_reducible refine below_drewN ?_ _ | with_reducible refine Below.drew ?_ | ((with_reducible refine below_set ?_ ?_ _); rotate_left; (focus (first | (simp; done) | (simp; omega) | omega))) | with_reducible refine below_call ?_ (by assumption)))⟩
set_option maxRecDepth 8000 in
set_option maxHeartbeats 4000000 in
theorem faultCount_any (nm : ByteArray) (A A' L : Option Addr) (n n' c c' l e B : Nat) (ms : List Mth) (rs : List Rul) (cw : Int) (zs : List Int) (w : World) (h : Months w B A n ms) (h' : Rules w B A' n' rs) (hI : Ints w B L l zs) (hB : B ≤ w.heap.size) (hn' : n' ≤ 1048576) (hl1 : 1 ≤ l) (hl : l ≤ 260) (hle : l ≤ e) (he : e ≤ 9223372036854775807) (k3 : l % n = 0) (hv : vCal nm n n' ms rs cw = true) :
    Calls Try.prog 67 #[.agg #[.string nm, .slice A n c, .slice A' n' c', .int .i64 cw], .slice L l e] w fun e w' => e = .returned (.int .i64 (cntFaults ms rs n n' zs l)) ∧ Below w.heap.size w w' := by
  have H := Lib.hid (Tri.more h hB)
  have H' := Lib.hid (Tri.more h' hB)
  have HI := Lib.hid (hI.more hB)
  obtain ⟨-, -, -, -, ⟨n1, n2⟩, -, -⟩ := vCal_yes hv
  obtain ⟨cy, hcy, c1, c2⟩ := vCal_cyc hv
  obtain ⟨b1, b2, b3⟩ := place_bd (y := 0) k3 hl1 n1
  have hk : l / n ≤ 260 := Nat.le_trans (Nat.div_le_self _ _) hl
  obtain ⟨g1, g2, g3⟩ := gcd_facts (k := l / n) (cy := cy) b1 hk c2
  have hb := comN_bd (k := l / n) (cy := cy) hk c2
  have t1 : ((l / n : Nat) : Int).tdiv ((Nat.gcd (l / n) cy : Nat) : Int) = ((l / n / Nat.gcd (l / n) cy : Nat) : Int) := nat_tdiv _ _
  have t2 : ((l / n : Nat) : Int) / ((Nat.gcd (l / n) cy : Nat) : Int) = ((l / n / Nat.gcd (l / n) cy : Nat) : Int) := (Int.natCast_ediv _ _).symm
  have hX : ((l / n / Nat.gcd (l / n) cy : Nat) : Int) * (cy : Int) = ((comN (l / n) cy : Nat) : Int) := by unfold comN; push_cast; rfl
  have CG := Lib.hid (fun (W : World) => (show Calls Try.prog 65 #[.int .i64 ((l / n : Nat) : Int), .int .i64 (cy : Int)] W fun e w' => e = .returned (.int .i64 ((Nat.gcd (l / n) cy : Nat) : Int)) ∧ ∃ k, w' = W.drewN k by rw [← gcd_nat]; exact gcd_any _ _ W (by omega) (by omega)))
  have cB := fun (W : World) => belongs_any nm A A' L n n' c c' l e cw W n1 (by omega) (by omega)
  rw [belV_yes k3] at cB
  have cC := fun (W : World) (hb : Below w.heap.size w W) => cycleYears_any A' n' c' w.heap.size rs W (Tri.below H'.out hb) hb.size (by omega) (vCal_evs hv)
  rw [hcy] at cC
  have CF := Lib.hid (fun (W : World) (hb : Below w.heap.size w W) (y : Nat) (hy : y ≤ 1000000000) => faultsOf_any nm A A' L n n' c c' l e w.heap.size ms rs cw zs y W (Tri.below H.out hb) (Tri.below H'.out hb) (Ints.below HI.out hb) hb.size n1 n2 hn' hl1 hl hle he k3 (vCal_ev hv) hy)
  have hcf : cntFaults ms rs n n' zs l = ((allF ms rs n n' zs l 0 (comN (l / n) cy)).length : Nat) := by unfold cntFaults; rw [hcy, Int.toNat_natCast]
  rw [hcf]
  have HL := Lib.hid (fun j => allF_le ms rs n n' zs l 0 j)
  have HS := Lib.hid (fun j => (show (allF ms rs n n' zs l 0 (j + 1)).length = (allF ms rs n n' zs l 0 j).length + (fY ms rs n' zs (placeY l n j) j n).length by
    show (allF ms rs n n' zs l 0 j ++ fY ms rs n' zs (placeY l n (0 + j)) (0 + j) n).length = _
    rw [List.length_append, Nat.zero_add]))
  generalize comN (l / n) cy = X at *
  generalize Nat.gcd (l / n) cy = G at *
  generalize hQ : l / n / G = Q at *
  generalize hK : l / n = K at *
  have e0 : ¬ ((G : Int) = 0) := by omega
  have e1 : ((G : Int) == 0) = false := by rw [beq_eq_false_iff_ne]; omega
  have e2 : ¬ (G = 0) := by omega
  have r1 : IntKind.i64.wrap (Q : Int) = (Q : Int) := IntWalk.i64_in _ (by omega)
  have r2 : IntKind.i64.wrap ((Q : Int) * (cy : Int)) = (X : Int) := by rw [hX]; exact IntWalk.i64_in _ (by omega)
  have r3 : IntKind.i64.wrap (X : Int) = (X : Int) := IntWalk.i64_in _ (by omega)
  have CB := Lib.hid cB
  have CC := Lib.hid cC
  clear hv hcy cB cC hQ hK hcf h h' hI b3 b2
  go_enter Try.func67, Try.ntmps67
  go_wp2
  have yb : Below w.heap.size w (w.alloc (.cells #[.string nm, .slice A n c, .slice A' n' c', .int .i64 cw] 27)) := by (repeat (first | with_reducible exact Below.refl _ _ | with_reducible refine below_alloc ?_ _ | with_reducible refine below_drewN ?_ _ | with_reducible refine Below.drew ?_ | ((with_reducible refine below_set ?_ ?_ _); rotate_left; (focus (first | (simp; done) | (simp; omega) | omega))) | with_reducible refine below_call ?_ (by assumption)))
  go_region_held3 (fun w' => w'.cell? ⟨w.heap.size, 0, none⟩ = some (.string nm) ∧ w'.cell? ⟨w.heap.size, 1, none⟩ = some (.slice A n c) ∧ w'.cell? ⟨w.heap.size, 2, none⟩ = some (.slice A' n' c') ∧ w'.cell? ⟨w.heap.size, 3, none⟩ = some (.int .i64 cw) ∧ w.heap.size < w'.heap.size ∧ Below w.heap.size w w') (first | ((try go_split_ands); (try dsimp only); refine ⟨?_, ?_, ?_, ?_, ?_, ?_⟩ <;> first | (exact cell_call (by assumption) (by assumption) (by assumption)) | (exact lt_call (by assumption) (by assumption)) | (exact below_call' (by assumption) (by assumption)) | (exact Below.drew (by assumption)) | (with_reducible assumption) | (simp; done) | (simp [*]; done) | ((repeat (first | with_reducible exact Below.refl _ _ | with_reducible refine below_alloc ?_ _ | with_reducible refine below_drewN ?_ _ | with_reducible refine Below.drew ?_ | ((with_reducible refine below_set ?_ ?_ _); rotate_left; (focus (first | (simp; done) | (simp; omega) | omega))) | with_reducible refine below_call ?_ (by assumption))); done) | omega | (simp; omega) | (simp [go_sem]; done) | (simp [go_sem, *]; done))) (first | (go_at_call 116; refine (CB.out _).mono ?_; rintro e1 w2 ⟨rfl, hb2⟩) | (go_at_call 64; go_split_ands; refine (CC.out _ (by assumption)).mono ?_; rintro e1 w3 ⟨rfl, hb3⟩))
  go_split_ands
  have HB3 : Hid (Below w.heap.size w w3) := Lib.hid (by assumption)
  have KC3 : Hid (CalAt w3 w.heap.size nm A A' n n' c c' cw) := Lib.hid ⟨by assumption, by assumption, by assumption, by assumption, by assumption⟩
  go_wp2_with fail
  go_at_call 65
  refine (CG.out _).mono ?_
  rintro e1 w4 ⟨rfl, kk, rfl⟩
  have HB4 : Hid (Below w.heap.size w (w3.drewN kk)) := Lib.hid (below_drewN HB3.out _)
  have KC4 : Hid (CalAt (w3.drewN kk) w.heap.size nm A A' n n' c c' cw) := Lib.hid (KC3.out.call (below_drewN (Below.refl _ _) _))
  obtain ⟨W5, hW5⟩ : ∃ W, w3.drewN kk = W := ⟨_, rfl⟩
  rw [hW5] at HB4 KC4 ⊢
  clear hW5
  go_wp2
  go_loopw [8, 9] (fun a t wr => ∃ j : Nat, t = .int .i64 (j : Int) ∧ j ≤ X ∧ a = .int .i64 ((allF ms rs n n' zs l 0 j).length : Nat) ∧ Hid (CalAt wr w.heap.size nm A A' n n' c c' cw) ∧ Hid (Below w.heap.size w wr)) (fun _ t _ => X - (intOf t).toNat)
  case atStart => exact ⟨0, rfl, Nat.zero_le _, rfl, KC4, HB4⟩
  case round =>
    obtain ⟨j, rfl, hj, rfl, HC, HB⟩ := hrel
    obtain ⟨zc, u0, u1, u2, u3⟩ := HC.out
    have hl1 := HL.out j
    have hs1 := HS.out j
    have hl2 := HL.out (j + 1)
    have m1 : j * n ≤ 520000 * 20 := Nat.mul_le_mul (by omega) n2
    by_cases hlt : j < X
    · have i1 : (j : Int) < (X : Int) := by omega
      have m2 : (j + 1) * n ≤ 520000 * 20 := Nat.mul_le_mul (by omega) n2
      have cf := CF.out wr HB.out j (by omega)
      generalize fY ms rs n' zs (placeY l n j) j n = G2 at *
      obtain ⟨F2, hF2⟩ : ∃ F2, allF ms rs n n' zs l 0 (j + 1) = F2 := ⟨_, rfl⟩
      have HF2 := Lib.hid hF2
      rw [hF2] at hs1 hl2
      clear hF2
      generalize allF ms rs n n' zs l 0 j = F1 at *
      have CF2 := Lib.hid cf
      clear cf
      go_wp2_with fail
      go_at_call 79
      refine CF2.out.mono ?_
      rintro e1 w6 ⟨X2, m6, c6, rfl, ho6, hb6⟩
      have hln := ho6.len
      have HC6 := Lib.hid (HC.out.call hb6)
      have HB6 := Lib.hid (below_call HB.out hb6)
      clear ho6 hb6 zc u0 u1 u2 u3
      have hx : (F1.length : Int) + (m6 : Int) = (F2.length : Int) := by omega
      have hb2 : (F2.length : Int) ≤ 10400000 := by omega
      clear hs1 hl1 hl2 hln m1 m2
      go_wp2
      go_roundw
      case rel => exact ⟨j + 1, by go_num, by omega, by rw [HF2.out], HC6, HB6⟩
      case measure => simp [intOf]; omega
    · have hE : j = X := by omega
      subst hE
      go_wp2
      go_ret
      exact ⟨rfl, HB.out⟩
end Go.Proofs.Ythjldjbblaioaaa
