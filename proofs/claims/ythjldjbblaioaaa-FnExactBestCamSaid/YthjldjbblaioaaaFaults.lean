/- The program's faultsOf: the faults of a year. No conditions but those of a calendar and a cam that belong to one another. -/
import Derived.Test.YthjldjbblaioaaaFlt
namespace Go.Proofs.Ythjldjbblaioaaa
open Go.RowKit
set_option linter.unusedVariables false
set_option linter.unusedSimpArgs false
/-- the place of a year's first month on a cam -/
def placeY (l n y : Nat) : Nat := y % (l / n) * n
/-- the faults of the first k months of a year -/
def fY (ms : List Mth) (rs : List Rul) (n' : Nat) (zs : List Int) (p y : Nat) : Nat → List Flt
  | 0 => []
  | k + 1 => if zs.getD (p + k) 0 = dayK ms rs n' (y : Int) ((k : Int) + 1) then fY ms rs n' zs p y k else fY ms rs n' zs p y k ++ [⟨(y : Int), (k : Int) + 1, zs.getD (p + k) 0, dayK ms rs n' (y : Int) ((k : Int) + 1)⟩]
theorem fY_same {ms : List Mth} {rs : List Rul} {n' : Nat} {zs : List Int} {p y k : Nat} (h : zs.getD (p + k) 0 = dayK ms rs n' (y : Int) ((k : Int) + 1)) : fY ms rs n' zs p y (k + 1) = fY ms rs n' zs p y k := by rw [fY, if_pos h]
theorem fY_more {ms : List Mth} {rs : List Rul} {n' : Nat} {zs : List Int} {p y k : Nat} (h : ¬ (zs.getD (p + k) 0 = dayK ms rs n' (y : Int) ((k : Int) + 1))) : fY ms rs n' zs p y (k + 1) = fY ms rs n' zs p y k ++ [⟨(y : Int), (k : Int) + 1, zs.getD (p + k) 0, dayK ms rs n' (y : Int) ((k : Int) + 1)⟩] := by rw [fY, if_neg h]
theorem fY_len (ms : List Mth) (rs : List Rul) (n' : Nat) (zs : List Int) (p y : Nat) : ∀ k, (fY ms rs n' zs p y k).length ≤ k
  | 0 => Nat.le_refl _
  | k + 1 => by
    have ih := fY_len ms rs n' zs p y k
    by_cases h : zs.getD (p + k) 0 = dayK ms rs n' (y : Int) ((k : Int) + 1)
    · rw [fY_same h]; omega
    · rw [fY_more h, List.length_append]; simp; omega
theorem place_bd {l n y : Nat} (h0 : l % n = 0) (hl : 1 ≤ l) (hn : 1 ≤ n) : 1 ≤ l / n ∧ y % (l / n) < l / n ∧ placeY l n y + n ≤ l := by
  have h1 := Nat.div_add_mod l n
  rw [h0, Nat.add_zero] at h1
  have h2 : 1 ≤ l / n := by
    rcases Nat.eq_zero_or_pos (l / n) with h | h
    · rw [h, Nat.mul_zero] at h1; omega
    · exact h
  have h3 : y % (l / n) < l / n := Nat.mod_lt _ h2
  refine ⟨h2, h3, ?_⟩
  unfold placeY
  have h4 : (y % (l / n) + 1) * n ≤ l / n * n := Nat.mul_le_mul_right n h3
  rw [Nat.add_mul, Nat.one_mul, Nat.mul_comm (l / n) n, h1] at h4
  exact h4
theorem alb' (w : World) (o : Obj) : Below w.heap.size w (w.alloc o) := (Below.refl _ _).alloc (Nat.le_refl _) o
/-- a call gives a new row of faults -/
def NewFlt (w : World) (fs : List Flt) (e : Ending) (w' : World) : Prop := ∃ A m c, e = .returned (.slice A m c) ∧ OwnF w' w.heap.size A m c fs ∧ Below w.heap.size w w'
set_option maxHeartbeats 4000000 in
theorem faultsOf_any (nm : ByteArray) (A A' L : Option Addr) (n n' c c' l e B : Nat) (ms : List Mth) (rs : List Rul) (cw : Int) (zs : List Int) (y : Nat) (w : World) (h : Months w B A n ms) (h' : Rules w B A' n' rs) (hI : Ints w B L l zs) (hB : B ≤ w.heap.size) (hn1 : 1 ≤ n) (hn : n ≤ 20) (hn' : n' ≤ 1048576) (hl1 : 1 ≤ l) (hl : l ≤ 260) (hle : l ≤ e) (he : e ≤ 9223372036854775807) (k3 : l % n = 0) (hev : ∀ j, j < n' → 1 ≤ (rs.getD j r0).ev) (hy : y ≤ 1000000000) :
    Calls Try.prog 79 #[.agg #[.string nm, .slice A n c, .slice A' n' c', .int .i64 cw], .slice L l e, .int .i64 (y : Int)] w (NewFlt w (fY ms rs n' zs (placeY l n y) y n)) := by
  have H := Lib.hid (Tri.more h hB)
  have H' := Lib.hid (Tri.more h' hB)
  have HI := Lib.hid (hI.more hB)
  have HC0 := Lib.hid (cal_new w 27 nm A A' n n' c c' cw)
  obtain ⟨bl, offl, rfl, hbl, hcl⟩ := hI.2 (by omega)
  obtain ⟨q1, q2, q3⟩ := place_bd (y := y) k3 hl1 hn1
  have cL := fun (W : World) (hb : Below w.heap.size w W) => isLeap_any nm A A' n n' c c' w.heap.size rs cw (y : Int) W (Tri.below H'.out hb) hb.size (by omega) hev (by omega) (by omega)
  have cB := fun (W : World) => belongs_any nm A A' (some ⟨bl, offl, none⟩) n n' c c' l e cw W hn1 (by omega) (by omega)
  rw [belV_yes k3] at cB
  have cD := fun (W : World) (hb : Below w.heap.size w W) (k : Nat) (hk : k < n) => daysOfMonth_any nm A A' n n' c c' w.heap.size ms cw (leapK rs (y : Int) n') ((k : Int) + 1) W (Tri.below H.out hb) hb.size (by omega) (by omega) (by omega)
  have hdy : ∀ k : Nat, dayB ms (leapK rs (y : Int) n') ((k : Int) + 1) = dayK ms rs n' (y : Int) ((k : Int) + 1) := fun k => rfl
  have hT1 : (y : Int).tmod ((l / n : Nat) : Int) = ((y % (l / n) : Nat) : Int) := nat_tmod y (l / n)
  have hP : ((y % (l / n) : Nat) : Int) * (n : Int) = ((placeY l n y : Nat) : Int) := by unfold placeY; push_cast; rfl
  have hqz : l / n ≤ l := Nat.div_le_self l n
  generalize placeY l n y = P at *
  generalize hR : y % (l / n) = R at *
  generalize l / n = Q at *
  generalize leapK rs (y : Int) n' = LP at *
  have CL := Lib.hid cL
  have CB := Lib.hid cB
  have CD := Lib.hid cD
  have HDY := Lib.hid hdy
  have s0 : ¬ ((Q : Int) = 0) := by omega
  have s1 : ((Q : Int) == 0) = false := by rw [beq_eq_false_iff_ne]; omega
  have s2 : IntKind.i64.wrap (R : Int) = (R : Int) := IntWalk.i64_in _ (by omega)
  have s3 : IntKind.i64.wrap (P : Int) = (P : Int) := IntWalk.i64_in _ (by omega)
  have s4 : (P : Int) ≤ (e : Int) := by omega
  have s5 : (0 : Int) ≤ (P : Int) := by omega
  have s6 : ¬ (e = P) := by omega
  have s7 : (P : Int) ≤ (l : Int) := by omega
  clear h h' hI hev cL cB cD hdy hR hcl
  go_enter Try.func79, Try.ntmps79
  go_wp2_with (first | (go_at_call 66; refine (CL.out _ (by (repeat (first | with_reducible exact Below.refl _ _ | with_reducible refine below_alloc ?_ _ | with_reducible refine below_drewN ?_ _ | with_reducible refine Below.drew ?_ | ((with_reducible refine below_set ?_ ?_ _); rotate_left; (focus (first | (simp; done) | (simp; omega) | omega))) | with_reducible refine below_call ?_ (by assumption))))).mono ?_; rintro e1 w1 ⟨rfl, hb1⟩; have KC := HC0.out.call hb1; have HB1 : Hid (Below w.heap.size w w1) := Lib.hid (by (repeat (first | with_reducible exact Below.refl _ _ | with_reducible refine below_alloc ?_ _ | with_reducible refine below_drewN ?_ _ | with_reducible refine Below.drew ?_ | ((with_reducible refine below_set ?_ ?_ _); rotate_left; (focus (first | (simp; done) | (simp; omega) | omega))) | with_reducible refine below_call ?_ (by assumption)))); obtain ⟨zc, u0, u1, u2, u3⟩ := KC; clear hb1) | (go_at_call 116; refine (CB.out _).mono ?_; rintro e1 w2 ⟨rfl, hb2⟩; have KC2 := Lib.hid (CalAt.call ⟨zc, u0, u1, u2, u3⟩ hb2); have HB2 : Hid (Below w.heap.size w w2) := Lib.hid (below_call HB1.out hb2); clear hb2) | fail)
  have HB3 : Hid (Below w.heap.size w w2) := HB2
  go_loopw [7, 11, 12] (fun a t _ wr => ∃ (k m cc : Nat) (X : Option Addr), t = .int .i64 ((k + 1 : Nat) : Int) ∧ k ≤ n ∧ a = .slice X m cc ∧ m ≤ k ∧ Hid (OwnF wr (w.heap.size + 1) X m cc (fY ms rs n' zs P y k)) ∧ Hid (CalAt wr w.heap.size nm A A' n n' c c' cw) ∧ Hid (Below w.heap.size w wr)) (fun _ t _ _ => n + 1 - (intOf t).toNat)
  case atStart => exact ⟨0, 0, 0, none, rfl, Nat.zero_le _, rfl, Nat.le_refl _, Lib.hid OwnF.nil_, KC2, HB2⟩
  case round =>
    obtain ⟨k, m, cc, X, rfl, hk, rfl, hmk, HO, HC, HB⟩ := hrel
    clear zc u0 u1 u2 u3 HB3 HB2 KC2
    obtain ⟨zc, u0, u1, u2, u3⟩ := HC.out
    have hsz := HB.out.size
    have i0 : (0 : Int) ≤ (k : Int) := Int.natCast_nonneg _
    by_cases hlt : k < n
    · have i1 : (k : Int) + 1 ≤ (n : Int) := by omega
      have i2 : (k : Int) < ((l - P : Nat) : Int) := by omega
      obtain ⟨b0, o0, e0, hbz, hcz⟩ := (Ints.below HI.out HB.out).at_ (k := P + k) (by omega)
      injection e0 with e0
      injection e0 with e0 e1
      subst e0 e1
      rw [← Nat.add_assoc] at hcz
      have hf1 := @fY_same ms rs n' zs P y k
      have hf2 := @fY_more ms rs n' zs P y k
      have hdk := HDY.out k
      have cd := fun (W : World) (hb : Below w.heap.size w W) => CD.out W hb k hlt
      rw [hdk] at cd
      generalize zs.getD (P + k) 0 = x at *
      generalize dayK ms rs n' (y : Int) ((k : Int) + 1) = D at *
      have C2 := Lib.hid cd
      by_cases hx : x = D
      · have HF := Lib.hid (hf1 hx)
        subst hx
        clear hf1 hf2 cd hdk
        go_wp2_with (first | (go_at_call 100; refine (C2.out _ HB.out).mono ?_; rintro e1 w3 ⟨rfl, hb3⟩; have hc3 := cell_call hb3 (by show bl < _; omega) hcz; have HB3 := Lib.hid (below_call HB.out hb3); have HO3 := Lib.hid (HO.out.call hb3); have HC3 := Lib.hid (HC.out.call hb3); clear hb3) | fail)
        go_roundw
        case rel => exact ⟨k + 1, m, cc, X, by go_num, by omega, rfl, by omega, Lib.hid (by rw [HF.out]; exact HO3.out), HC3, HB3⟩
        case measure => simp [intOf]; omega
      · have HF := Lib.hid (hf2 hx)
        have hx2 : (x != D) = true := by simpa using hx
        clear hf1 hf2 cd hdk
        go_wp2_with (first | (go_at_call 100; refine (C2.out _ HB.out).mono ?_; rintro e1 w3 ⟨rfl, hb3⟩; have hc3 := cell_call hb3 (by show bl < _; omega) hcz; have HB3 := Lib.hid (below_call HB.out hb3); have HO3 := Lib.hid (HO.out.call hb3); have HC3 := Lib.hid (HC.out.call hb3); have hs3 := HB3.out.size; clear hb3) | (at_builtin; refine wpList_appF rfl _ _ rfl _ (w.heap.size + 1) X m cc _ [⟨(y : Int), (k : Int) + 1, x, D⟩] rfl (HO3.out.call (alb' _ _)) _ 1 1 rfl rfl (Nat.le_refl _) (by intro j u hj; match j, hj with | 0, hj => (simp [flatF, fT] at hj; subst hj; simp [go_sem]) | 1, hj => (simp [flatF, fT] at hj; subst hj; simp [go_sem]) | 2, hj => (simp [flatF, fT] at hj; subst hj; simp [go_sem]) | 3, hj => (simp [flatF, fT] at hj; subst hj; simp [go_sem])) (by omega) (by simp; first | omega | (have := HC3.out.lt; omega)) ?_; intro A2 c2 w4 ho4 hb4; have HO4 := Lib.hid ho4; have HB4 := Lib.hid ((HB3.out.alloc hs3 _).trans (hb4.mono (by omega))); have HC4 := Lib.hid ((HC3.out.call (alb' _ _)).below (by omega) hb4); clear ho4 hb4) | fail)
        go_roundw
        case rel => exact ⟨k + 1, m + 1, c2, A2, by go_num, by omega, rfl, by omega, Lib.hid (by rw [HF.out]; exact HO4.out), HC4, HB4⟩
        case measure => simp [intOf]; omega
    · have hE : k = n := by omega
      have HE := Lib.hid hE
      go_wp2
      go_ret
      exact ⟨X, m, cc, rfl, by rw [← HE.out]; exact HO.out.low (by omega), HB.out⟩
end Go.Proofs.Ythjldjbblaioaaa
