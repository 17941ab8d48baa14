/- The days of a year, of a cycle and before a year, and the number of a day: the reference's functions. Conditions: the calendar is valid, years lie from 0 to 10000. -/
import Derived.Test.YtmbdedkelckedaaDays
import Derived.Test.YtmbdedkelckedaaCore6
namespace Go.Proofs.Ytmbdedkelckedaa
open Go.RowKit
set_option linter.unusedVariables false
set_option linter.unusedSimpArgs false
/-- a calendar that can be read: its cells in block g -/
structure CalRd (W : World) (g : Nat) (nm : ByteArray) (A A' : Option Addr) (n n' c c' : Nat) (we : Int) (ms : List Mth) (rs : List Rul) : Prop where
  at_ : CalAt W g nm A A' n n' c c' we
  m : Months W W.heap.size A n ms
  r : Rules W W.heap.size A' n' rs
theorem CalRd.call {W W' : World} {g n n' c c' : Nat} {nm : ByteArray} {A A' : Option Addr} {we : Int} {ms : List Mth} {rs : List Rul} (h : CalRd W g nm A A' n n' c c' we ms rs) (hb : Below W.heap.size W W') : CalRd W' g nm A A' n n' c c' we ms rs :=
  ⟨h.at_.call hb, Tri.more (Tri.below h.m hb) hb.size, Tri.more (Tri.below h.r hb) hb.size⟩
set_option maxHeartbeats 2000000 in
theorem l15All_any {nm : ByteArray} {A A' : Option Addr} {n n' c c' g : Nat} {ms : List Mth} {rs : List Rul} {we : Int} (w : World) (hC : CalRd w g nm A A' n n' c c' we ms rs) (hv : vCal nm n n' ms rs we = true) (Y : Nat) (hY : Y ≤ 100000) :
    Calls Try.prog 83 #[.pointer (some ⟨g, 0, none⟩), .int .i64 (Y : Int)] w fun e w' => e = .returned (.int .i64 (yrK ms rs n n' Y)) ∧ Below w.heap.size w w' := by
  obtain ⟨-, -, hn6, -, ⟨n1, n2⟩, -, -⟩ := vCal_yes hv
  have HC := Lib.hid hC
  have HM := Lib.hid (monK_bd hv (Y : Int))
  have CD := Lib.hid (fun (W : World) (hb : Below w.heap.size w W) (k : Nat) (hk : k < n) => l15Days_k g A A' n n' c c' W.heap.size k ms rs (Y : Int) W (HC.out.call hb).at_.lt (HC.out.call hb).at_.c1 (HC.out.call hb).at_.c2 (HC.out.call hb).m (HC.out.call hb).r (Nat.le_refl _) (by omega) (by omega) (vCal_ev hv) (by omega) (by omega) hk)
  clear hC hv
  go_enter Try.func83, Try.ntmps83
  go_wp2
  go_loopw [5, 6] (fun a t wr => ∃ k : Nat, t = .int .i64 (k : Int) ∧ k ≤ n ∧ a = .int .i64 (monK ms rs n' (Y : Int) k) ∧ Hid (Below w.heap.size w wr)) (fun _ t _ => n - (intOf t).toNat)
  case atStart => exact ⟨0, rfl, Nat.zero_le _, rfl, Lib.hid (Below.refl _ _)⟩
  case round =>
    obtain ⟨k, rfl, hk, rfl, HB⟩ := hrel
    obtain ⟨zc, u0, u1, u2, u3⟩ := (HC.out.call HB.out).at_
    have b1 := HM.out k hk
    by_cases hlt : k < n
    · have i1 : (k : Int) < (n : Int) := by omega
      have cd := CD.out wr HB.out k hlt
      have hst : monK ms rs n' (Y : Int) (k + 1) = monK ms rs n' (Y : Int) k + dayK ms rs n' (Y : Int) ((k : Int) + 1) := rfl
      have b2 := HM.out (k + 1) (by omega)
      generalize dayK ms rs n' (Y : Int) ((k : Int) + 1) = D at *
      obtain ⟨M1, hM1⟩ : ∃ M1, monK ms rs n' (Y : Int) (k + 1) = M1 := ⟨_, rfl⟩
      have HM1 := Lib.hid hM1
      rw [hM1] at hst b2
      clear hM1
      generalize monK ms rs n' (Y : Int) k = M0 at *
      have CD2 := Lib.hid cd
      clear cd
      go_wp2_with fail
      go_at_call 55
      refine CD2.out.mono ?_
      rintro e1 w4 ⟨rfl, q, rfl⟩
      have HB4 := Lib.hid (below_drewN HB.out q)
      obtain ⟨w4, hw4⟩ : ∃ W, wr.drewN q = W := ⟨_, rfl⟩
      rw [hw4] at HB4 ⊢
      clear hw4 zc u0 u1 u2 u3
      go_wp2
      go_roundw
      case rel => exact ⟨k + 1, by go_num, by omega, congrArg (Value.int .i64) (by have := HM1.out; omega), HB4⟩
      case measure => simp [intOf]; omega
    · have hE : k = n := by omega
      subst hE
      go_wp2
      go_ret
      exact ⟨rfl, HB.out⟩
set_option maxHeartbeats 2000000 in
theorem l15Cycle_any {nm : ByteArray} {A A' : Option Addr} {n n' c c' g : Nat} {ms : List Mth} {rs : List Rul} {we : Int} (w : World) (hC : CalRd w g nm A A' n n' c c' we ms rs) (hv : vCal nm n n' ms rs we = true) (C : Nat) (hcy : cycK rs n' = (C : Int)) :
    Calls Try.prog 82 #[.pointer (some ⟨g, 0, none⟩)] w fun e w' => e = .returned (.tuple #[.int .i64 (C : Int), .int .i64 (befK ms rs n n' C)]) ∧ Below w.heap.size w w' := by
  obtain ⟨-, hc2, hn6, -, ⟨n1, n2⟩, -, -⟩ := vCal_yes hv
  have HC := Lib.hid hC
  have HM := Lib.hid (befK_bd hv)
  have hC2 : C ≤ 2000 := by omega
  have hvr : vRules rs n' = true := by unfold vCal at hv; simp only [Bool.and_eq_true] at hv; exact hv.1.1.1
  have CY := Lib.hid (fun (W : World) (hb : Below w.heap.size w W) => (l15Years_any A' n' c' W.heap.size rs W (HC.out.call hb).r (Nat.le_refl _) (by omega) (fun j hj => by have := (vCal_evs hv j hj).1; omega)).mono (fun e w' (h : Yrs W rs n' e w') => (show e = .returned (.tuple #[.int .i64 (C : Int), .bool true]) ∧ Below W.heap.size W w' by
    obtain ⟨x, he, hx, hbl⟩ := h
    rw [hvr] at he
    rw [hx hvr, hcy] at he
    exact ⟨he, hbl⟩)))
  have CA := Lib.hid (fun (W : World) (hb : Below w.heap.size w W) (Y : Nat) (hY : Y ≤ 100000) => l15All_any W (HC.out.call hb) hv Y hY)
  clear hC hv hvr hcy
  obtain ⟨zc, u0, u1, u2, u3⟩ := HC.out.at_
  go_enter Try.func82, Try.ntmps82
  go_wp2_with fail
  go_at_call 78
  refine (CY.out _ (Below.refl _ _)).mono ?_
  rintro e1 w1 ⟨rfl, hb1⟩
  have HB1 := Lib.hid hb1
  clear hb1 zc u0 u1 u2 u3
  go_wp2
  go_loopw [6, 7] (fun a t wr => ∃ k : Nat, t = .int .i64 (k : Int) ∧ k ≤ C ∧ a = .int .i64 (befK ms rs n n' k) ∧ Hid (Below w.heap.size w wr)) (fun _ t _ => C - (intOf t).toNat)
  case atStart => exact ⟨0, rfl, Nat.zero_le _, rfl, HB1⟩
  case round =>
    clear HB1
    obtain ⟨k, rfl, hk, rfl, HB⟩ := hrel
    have b1 := HM.out k
    by_cases hlt : k < C
    · have i1 : (k : Int) < (C : Int) := by omega
      have cd := CA.out wr HB.out k (by omega)
      have hst : befK ms rs n n' (k + 1) = befK ms rs n n' k + yrK ms rs n n' k := rfl
      have b2 := HM.out (k + 1)
      generalize yrK ms rs n n' k = D at *
      obtain ⟨M1, hM1⟩ : ∃ M1, befK ms rs n n' (k + 1) = M1 := ⟨_, rfl⟩
      have HM1 := Lib.hid hM1
      rw [hM1] at hst b2
      clear hM1
      generalize befK ms rs n n' k = M0 at *
      have CD2 := Lib.hid cd
      clear cd
      go_wp2_with fail
      go_at_call 83
      refine CD2.out.mono ?_
      rintro e1 w4 ⟨rfl, hb4⟩
      have HB4 := Lib.hid (below_call HB.out hb4)
      clear hb4
      go_wp2
      go_roundw
      case rel => exact ⟨k + 1, by go_num, by omega, congrArg (Value.int .i64) (by have := HM1.out; omega), HB4⟩
      case measure => simp [intOf]; omega
    · have hE : k = C := by omega
      subst hE
      go_wp2
      go_ret2
      exact ⟨rfl, HB.out⟩
set_option maxHeartbeats 2000000 in
theorem l16Before_any {nm : ByteArray} {A A' : Option Addr} {n n' c c' g : Nat} {ms : List Mth} {rs : List Rul} {we : Int} (w : World) (hC : CalRd w g nm A A' n n' c c' we ms rs) (hv : vCal nm n n' ms rs we = true) (Y : Nat) (hY : Y ≤ 10000) :
    Calls Try.prog 84 #[.pointer (some ⟨g, 0, none⟩), .int .i64 (Y : Int)] w fun e w' => e = .returned (.int .i64 (befK ms rs n n' Y)) ∧ Below w.heap.size w w' := by
  obtain ⟨C, hcy, hC1, hC2⟩ := vCal_cyc hv
  have HC := Lib.hid hC
  have HM := Lib.hid (befK_bd hv)
  have CC := Lib.hid (fun (W : World) (hb : Below w.heap.size w W) => l15Cycle_any W (HC.out.call hb) hv C hcy)
  have CA := Lib.hid (fun (W : World) (hb : Below w.heap.size w W) (Y : Nat) (hY : Y ≤ 100000) => l15All_any W (HC.out.call hb) hv Y hY)
  have hmul := befK_mul hv hcy (Y / C)
  have t1 : (Y : Int).tdiv (C : Int) = ((Y / C : Nat) : Int) := nat_tdiv _ _
  have t2 : (Y : Int) / (C : Int) = ((Y / C : Nat) : Int) := (Int.natCast_ediv _ _).symm
  have t3 : (Y : Int).tmod (C : Int) = ((Y % C : Nat) : Int) := nat_tmod _ _
  have t4 : (Y : Int) % (C : Int) = ((Y % C : Nat) : Int) := (Int.natCast_emod _ _).symm
  have hdm : C * (Y / C) + Y % C = Y := Nat.div_add_mod Y C
  have e0 : ¬ ((C : Int) = 0) := by omega
  have e1 : ((C : Int) == 0) = false := by rw [beq_eq_false_iff_ne]; omega
  have e2 : ¬ (C = 0) := by omega
  have hq : Y / C ≤ 10000 := Nat.le_trans (Nat.div_le_self _ _) hY
  have bC := HM.out C
  have bS := HM.out (C * (Y / C))
  generalize Y / C = Q at *
  generalize Y % C = r at *
  generalize hS : C * Q = S at *
  generalize befK ms rs n n' C = D at *
  obtain ⟨X, hX⟩ : ∃ X, (Q : Int) * D = X := ⟨_, rfl⟩
  rw [hX] at hmul
  have r1 : IntKind.i64.wrap (Q : Int) = (Q : Int) := IntWalk.i64_in _ (by omega)
  have r2 : IntKind.i64.wrap ((Q : Int) * D) = X := by rw [hX]; exact IntWalk.i64_in _ (by omega)
  have r4 : (Y : Int) - (r : Int) = (S : Int) := by omega
  have HMUL := Lib.hid hmul
  have bX : 0 ≤ X ∧ X ≤ 12000000 := by omega
  have r5 : wrap64 X = X := by unfold wrap64; omega
  clear hC hv hcy hmul hS
  go_enter Try.func84, Try.ntmps84
  go_wp2_with fail
  go_at_call 82
  refine (CC.out _ (Below.refl _ _)).mono ?_
  rintro e1 w1 ⟨rfl, hb1⟩
  have HB1 := Lib.hid hb1
  clear hb1
  go_wp2
  go_loopw [7, 8] (fun a t wr => ∃ k : Nat, t = .int .i64 ((S + k : Nat) : Int) ∧ S + k ≤ Y ∧ a = .int .i64 (befK ms rs n n' (S + k)) ∧ Hid (Below w.heap.size w wr)) (fun _ t _ => Y - (intOf t).toNat)
  case atStart => exact ⟨0, by go_num, by omega, congrArg (Value.int .i64) (by have := HMUL.out; rw [Nat.add_zero]; omega), HB1⟩
  case round =>
    clear HB1
    obtain ⟨k, rfl, hk, rfl, HB⟩ := hrel
    have b1 := HM.out (S + k)
    by_cases hlt : S + k < Y
    · have i1 : ((S + k : Nat) : Int) < (Y : Int) := by omega
      have cd := CA.out wr HB.out (S + k) (by omega)
      have hst : befK ms rs n n' (S + k + 1) = befK ms rs n n' (S + k) + yrK ms rs n n' (S + k) := rfl
      have b2 := HM.out (S + k + 1)
      generalize yrK ms rs n n' (S + k) = D2 at *
      obtain ⟨M1, hM1⟩ : ∃ M1, befK ms rs n n' (S + k + 1) = M1 := ⟨_, rfl⟩
      have HM1 := Lib.hid hM1
      rw [hM1] at hst b2
      clear hM1
      generalize befK ms rs n n' (S + k) = M0 at *
      have CD2 := Lib.hid cd
      clear cd
      go_wp2_with fail
      go_at_call 83
      refine CD2.out.mono ?_
      rintro e1 w4 ⟨rfl, hb4⟩
      have HB4 := Lib.hid (below_call HB.out hb4)
      clear hb4
      go_wp2
      go_roundw
      case rel => exact ⟨k + 1, by go_num, by omega, congrArg (Value.int .i64) (by have := HM1.out; rw [show S + (k + 1) = S + k + 1 by omega]; omega), HB4⟩
      case measure => simp [intOf]; omega
    · have i1 : ¬ (((S + k : Nat) : Int) < (Y : Int)) := by omega
      have hE : S + k = Y := by omega
      have HE := Lib.hid hE
      clear hE
      go_wp2
      go_ret
      exact ⟨congrArg (fun v => Ending.returned (.int .i64 v)) (by rw [HE.out]), HB.out⟩
set_option maxHeartbeats 1000000 in
theorem l16Last_any {nm : ByteArray} {A A' : Option Addr} {n n' c c' g : Nat} {ms : List Mth} {rs : List Rul} {we : Int} (w : World) (hC : CalRd w g nm A A' n n' c c' we ms rs) (hv : vCal nm n n' ms rs we = true) :
    Calls Try.prog 81 #[.pointer (some ⟨g, 0, none⟩)] w fun e w' => e = .returned (.int .i64 (befK ms rs n n' 10000 - 1)) ∧ Below w.heap.size w w' := by
  have HM := befK_bd hv 10000
  have CB := Lib.hid (l16Before_any w hC hv 10000 (Nat.le_refl _))
  generalize befK ms rs n n' 10000 = D at *
  clear hC hv
  go_enter Try.func81, Try.ntmps81
  go_wp2_with fail
  go_at_call 84
  refine CB.out.mono ?_
  rintro e1 w1 ⟨rfl, hb1⟩
  go_wp2
  go_ret
  exact ⟨rfl, hb1⟩
end Go.Proofs.Ytmbdedkelckedaa
