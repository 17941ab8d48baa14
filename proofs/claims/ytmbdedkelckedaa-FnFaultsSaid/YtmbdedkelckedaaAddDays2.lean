/- The number of a day, the day of a number, and the day that lies some days later: the reference's functions. Conditions: the calendar and the days are valid. -/
import Derived.Test.YtmbdedkelckedaaAddDays1
import Derived.Deep.RegionHeld3
namespace Go.Proofs.Ytmbdedkelckedaa
open Go.RowKit
set_option linter.unusedVariables false
set_option linter.unusedSimpArgs false
set_option maxHeartbeats 2000000 in
theorem l16Day_any {nm : ByteArray} {A A' : Option Addr} {n n' c c' g : Nat} {ms : List Mth} {rs : List Rul} {we : Int} (w : World) (hC : CalRd w g nm A A' n n' c c' we ms rs) (hv : vCal nm n n' ms rs we = true) (Y k : Nat) (d : Int) (hY : Y ≤ 9999) (hk : k < n) (d1 : 1 ≤ d) (d2 : d ≤ 60) :
    Calls Try.prog 44 #[.pointer (some ⟨g, 0, none⟩), .agg #[.int .i64 (Y : Int), .int .i64 ((k : Int) + 1), .int .i64 d]] w fun e w' => e = .returned (.int .i64 (noK ms rs n n' ((Y : Int), (k : Int) + 1, d))) ∧ Below w.heap.size w w' := by
  obtain ⟨-, -, hn6, -, ⟨n1, n2⟩, -, -⟩ := vCal_yes hv
  have HC := Lib.hid hC
  have bB := befK_bd hv Y
  have HM := Lib.hid (monK_bd hv (Y : Int))
  have CB := Lib.hid (fun (W : World) (hb : Below w.heap.size w W) => l16Before_any W (HC.out.call hb) hv Y (by omega))
  have CD := Lib.hid (fun (W : World) (hb : Below w.heap.size w W) (j : Nat) (hj : j < n) => l15Days_k g A A' n n' c c' W.heap.size j ms rs (Y : Int) W (HC.out.call hb).at_.lt (HC.out.call hb).at_.c1 (HC.out.call hb).at_.c2 (HC.out.call hb).m (HC.out.call hb).r (Nat.le_refl _) (by omega) (by omega) (vCal_ev hv) (by omega) (by omega) hj)
  rw [noK_k]
  generalize befK ms rs n n' Y = D at *
  have r1 : IntKind.i64.wrap (D + d) = D + d := IntWalk.i64_in _ (by omega)
  have r2 : IntKind.i64.wrap (D + d - 1) = D + d - 1 := IntWalk.i64_in _ (by omega)
  clear hC hv
  go_enter Try.func44, Try.ntmps44
  go_wp2
  have yb : Below w.heap.size w (w.alloc (.cells #[.int .i64 (Y : Int), .int .i64 ((k : Int) + 1), .int .i64 d] 29)) := by (repeat (first | with_reducible exact Below.refl _ _ | with_reducible refine below_alloc ?_ _ | with_reducible refine below_drewN ?_ _ | with_reducible refine Below.drew ?_ | ((with_reducible refine below_set ?_ ?_ _); rotate_left; (focus (first | (simp; done) | (simp; omega) | omega))) | with_reducible refine below_call ?_ (by assumption)))
  go_region_held3 (fun w' => w'.cell? ⟨w.heap.size, 0, none⟩ = some (.int .i64 (Y : Int)) ∧ w'.cell? ⟨w.heap.size, 1, none⟩ = some (.int .i64 ((k : Int) + 1)) ∧ w'.cell? ⟨w.heap.size, 2, none⟩ = some (.int .i64 d) ∧ w.heap.size < w'.heap.size ∧ Below w.heap.size w w') (first | ((try go_split_ands); (try dsimp only); refine ⟨?_, ?_, ?_, ?_, ?_⟩ <;> first | (exact cell_call (by assumption) (by assumption) (by assumption)) | (exact lt_call (by assumption) (by assumption)) | (exact below_call' (by assumption) (by assumption)) | (exact Below.drew (by assumption)) | (with_reducible assumption) | (simp; done) | (simp [*]; done) | ((repeat (first | with_reducible exact Below.refl _ _ | with_reducible refine below_alloc ?_ _ | with_reducible refine below_drewN ?_ _ | with_reducible refine Below.drew ?_ | ((with_reducible refine below_set ?_ ?_ _); rotate_left; (focus (first | (simp; done) | (simp; omega) | omega))) | with_reducible refine below_call ?_ (by assumption))); done) | omega | (simp; omega) | (simp [go_sem]; done) | (simp [go_sem, *]; done))) (first | (go_at_call 84; go_split_ands; refine (CB.out _ (by assumption)).mono ?_; rintro e1 w2 ⟨rfl, hb2⟩))
  go_split_ands
  have HB2 : Hid (Below w.heap.size w w2) := Lib.hid (by assumption)
  have HD2 : Hid (w2.cell? ⟨w.heap.size, 0, none⟩ = some (.int .i64 (Y : Int)) ∧ w2.cell? ⟨w.heap.size, 1, none⟩ = some (.int .i64 ((k : Int) + 1)) ∧ w.heap.size < w2.heap.size) := Lib.hid ⟨by assumption, by assumption, by assumption⟩
  go_wp2
  go_loopw [5, 6] (fun a t wr => ∃ j : Nat, t = .int .i64 (j : Int) ∧ j ≤ k ∧ a = .int .i64 (D + d - 1 + monK ms rs n' (Y : Int) j) ∧ Hid (wr.cell? ⟨w.heap.size, 0, none⟩ = some (.int .i64 (Y : Int)) ∧ wr.cell? ⟨w.heap.size, 1, none⟩ = some (.int .i64 ((k : Int) + 1)) ∧ w.heap.size < wr.heap.size) ∧ Hid (Below w.heap.size w wr)) (fun _ t _ => k - (intOf t).toNat)
  case atStart => exact ⟨0, rfl, Nat.zero_le _, congrArg (Value.int .i64) (by show _ = D + d - 1 + 0; (try rw [r1, r2]); omega), HD2, HB2⟩
  case round =>
    clear HD2 HB2
    obtain ⟨j, rfl, hj, rfl, HD, HB⟩ := hrel
    obtain ⟨p0, p1, p2⟩ := HD.out
    have b1 := HM.out j (by omega)
    by_cases hlt : j < k
    · have i1 : (j : Int) < (k : Int) := by omega
      have i2 : (k : Int) + 1 - 1 = (k : Int) := by omega
      have i3 : IntKind.i64.wrap ((k : Int) + 1 - 1) = (k : Int) := by rw [i2]; exact IntWalk.i64_in _ (by omega)
      have cd := CD.out wr HB.out j (by omega)
      have hst : monK ms rs n' (Y : Int) (j + 1) = monK ms rs n' (Y : Int) j + dayK ms rs n' (Y : Int) ((j : Int) + 1) := rfl
      have b2 := HM.out (j + 1) (by omega)
      generalize dayK ms rs n' (Y : Int) ((j : Int) + 1) = E at *
      obtain ⟨M1, hM1⟩ : ∃ M1, monK ms rs n' (Y : Int) (j + 1) = M1 := ⟨_, rfl⟩
      have HM1 := Lib.hid hM1
      rw [hM1] at hst b2
      clear hM1
      generalize monK ms rs n' (Y : Int) j = M0 at *
      have CD2 := Lib.hid cd
      clear cd
      go_wp2_with fail
      go_at_call 55
      refine CD2.out.mono ?_
      rintro e1 w4 ⟨rfl, q, rfl⟩
      have HB4 := Lib.hid (below_drewN HB.out q)
      have HD4 : Hid ((wr.drewN q).cell? ⟨w.heap.size, 0, none⟩ = some (.int .i64 (Y : Int)) ∧ (wr.drewN q).cell? ⟨w.heap.size, 1, none⟩ = some (.int .i64 ((k : Int) + 1)) ∧ w.heap.size < (wr.drewN q).heap.size) := HD
      obtain ⟨w4, hw4⟩ : ∃ W, wr.drewN q = W := ⟨_, rfl⟩
      rw [hw4] at HB4 HD4 ⊢
      clear hw4 p0 p1 p2
      go_wp2
      go_roundw
      case rel => exact ⟨j + 1, by go_num, by omega, congrArg (Value.int .i64) (by have := HM1.out; omega), HD4, HB4⟩
      case measure => simp [intOf]; omega
    · have i1 : ¬ ((j : Int) < (k : Int)) := by omega
      have i2 : (k : Int) + 1 - 1 = (k : Int) := by omega
      have i3 : IntKind.i64.wrap ((k : Int) + 1 - 1) = (k : Int) := by rw [i2]; exact IntWalk.i64_in _ (by omega)
      have hE : j = k := by omega
      have HE := Lib.hid hE
      clear hE
      go_wp2
      go_ret
      exact ⟨congrArg (fun v => Ending.returned (.int .i64 v)) (by rw [HE.out]; omega), HB.out⟩
theorem l16Far_in (x : Int) (w : World) (h0 : -20000000 ≤ x) (h1 : x ≤ 20000000) : Calls Try.prog 41 #[.int .i64 x] w fun e w' => e = .returned (.bool false) ∧ w = w' := by
  have CI := Lib.hid (fun W => l00In_val x (-20000000) 20000000 W true (inB_mk h0 h1))
  go_enter Try.func41, Try.ntmps41
  go_wp2_with (go_at_call 54; refine (CI.out _).mono ?_; rintro e w' ⟨rfl, rfl⟩)
  go_ret
  exact ⟨rfl, rfl⟩
set_option maxHeartbeats 1000000 in
theorem l16Code_ok (y m d : Int) (w : World) : Calls Try.prog 42 #[.agg #[.int .i64 y, .int .i64 m, .int .i64 d], .bool true] w fun e w' => e = .returned (.tuple #[.agg #[.int .i64 y, .int .i64 m, .int .i64 d], .int .i64 0]) ∧ Below w.heap.size w w' := by
  go_enter Try.func42, Try.ntmps42
  go_wp2
  refine bodyPost_ret (v := .tuple #[.agg #[.int .i64 y, .int .i64 m, .int .i64 d], .int .i64 0]) ?_ rfl ⟨rfl, by (repeat (first | with_reducible exact Below.refl _ _ | with_reducible refine below_alloc ?_ _ | with_reducible refine below_drewN ?_ _ | with_reducible refine Below.drew ?_ | ((with_reducible refine below_set ?_ ?_ _); rotate_left; (focus (first | (simp; done) | (simp; omega) | omega))) | with_reducible refine below_call ?_ (by assumption)))⟩
  simp [results, Try.results42, go_sem, *]
end Go.Proofs.Ytmbdedkelckedaa
