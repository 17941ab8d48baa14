/- Contracts of the two functions HourWheel. No conditions. -/
import Derived.Test.YtajcbppndkkbpaaGreatDoorWheel
import Derived.Test.YtajcbppndkkbpaaGreatDoorApp
namespace Go.Proofs.YtajcbppndkkbpaaGreatDoor
open Go.RowKit
set_option linter.unusedVariables false
set_option linter.unusedSimpArgs false
/-- the gaps up to hour k, with a half hour's blow behind each or without -/
def hwL (hf : Bool) : Nat → List Int
  | 0 => []
  | k + 1 => if hf then hwL hf k ++ [((k + 1 : Nat) : Int)] ++ [1] else hwL hf k ++ [((k + 1 : Nat) : Int)]
theorem hwL_yes (k : Nat) : hwL true (k + 1) = hwL true k ++ [((k + 1 : Nat) : Int)] ++ [1] := rfl
theorem hwL_no (k : Nat) : hwL false (k + 1) = hwL false k ++ [((k + 1 : Nat) : Int)] := rfl
theorem hwL_len (hf : Bool) : ∀ k, (hwL hf k).length ≤ 2 * k
  | 0 => by simp [hwL]
  | k + 1 => by
    have := hwL_len hf k
    cases hf
    · rw [hwL_no, List.length_append]; simp; omega
    · rw [hwL_yes, List.length_append, List.length_append]; simp; omega
theorem cells2 {w wr w2 : World} {u v : Value} {o : Obj} (hb2 : Below (w.heap.size + 2) (wr.alloc o) w2) (hsz : w.heap.size + 2 ≤ wr.heap.size) (hc0 : wr.cell? ⟨w.heap.size + 1, 0, none⟩ = some u) (hr0 : wr.cell? ⟨w.heap.size, 0, none⟩ = some v) (hcf0 : wr.frozen? ⟨w.heap.size + 1, 0, none⟩ = false) (hrf0 : wr.frozen? ⟨w.heap.size, 0, none⟩ = false) (hBw : Below w.heap.size w wr) :
    w2.cell? ⟨w.heap.size + 1, 0, none⟩ = some u ∧ w2.cell? ⟨w.heap.size, 0, none⟩ = some v ∧ w2.frozen? ⟨w.heap.size + 1, 0, none⟩ = false ∧ w2.frozen? ⟨w.heap.size, 0, none⟩ = false ∧ w.heap.size + 2 ≤ w2.heap.size ∧ Below w.heap.size w w2 := by
  have h1 : w.heap.size + 1 < wr.heap.size := by omega
  have h0 : w.heap.size < wr.heap.size := by omega
  refine ⟨?_, ?_, ?_, ?_, ?_, ?_⟩
  · exact (hb2.cell (p := ⟨w.heap.size + 1, 0, none⟩) (by simp)).trans ((World.cell?_alloc_lt wr _ _ (by simp; omega)).trans hc0)
  · exact (hb2.cell (p := ⟨w.heap.size, 0, none⟩) (by simp)).trans ((World.cell?_alloc_lt wr _ _ (by simp; omega)).trans hr0)
  · exact (hb2.frozen (p := ⟨w.heap.size + 1, 0, none⟩) (by simp)).trans (by simp [go_sem, *])
  · exact (hb2.frozen (p := ⟨w.heap.size, 0, none⟩) (by simp)).trans (by simp [go_sem, *])
  · have := hb2.size; simp at this; omega
  · exact (hBw.alloc (by omega) _).trans (hb2.mono (by omega))
set_option maxHeartbeats 4000000 in
theorem specHourWheel_any (hf : Bool) (w : World) :
    Calls Tryz.prog 70 #[.bool hf] w fun e w' => ∃ (L : Option Addr) (m c : Nat), e = .returned (.agg #[.slice L m c]) ∧ Own w' w.heap.size L m c (hwL hf 12) ∧ Below w.heap.size w w' := by
  have hlen := hwL_len hf
  have HL := Lib.hid hlen
  clear hlen
  go_enter Tryz.func70, Tryz.ntmps70
  go_wp2
  go_loopw [4] (fun t wr => ∃ (k m c : Nat) (L : Option Addr), t = .int .i64 ((k + 1 : Nat) : Int) ∧ k ≤ 12 ∧ wr.cell? ⟨w.heap.size + 1, 0, none⟩ = some (.slice L m c) ∧ wr.cell? ⟨w.heap.size, 0, none⟩ = some (.slice none 0 0) ∧ wr.frozen? ⟨w.heap.size + 1, 0, none⟩ = false ∧ wr.frozen? ⟨w.heap.size, 0, none⟩ = false ∧ w.heap.size + 2 ≤ wr.heap.size ∧ Hid (Own wr (w.heap.size + 2) L m c (hwL hf k)) ∧ Below w.heap.size w wr) (fun t _ => 13 - (intOf t).toNat)
  case atStart =>
    refine ⟨0, 0, 0, none, rfl, by omega, ?_, ?_, ?_, ?_, by simp, Lib.hid Own.nil_, by (repeat (first | with_reducible exact Below.refl _ _ | with_reducible refine below_alloc ?_ _ | with_reducible refine below_drewN ?_ _ | with_reducible refine Below.drew ?_ | ((with_reducible refine below_set ?_ ?_ _); rotate_left; (focus (first | (simp; done) | (simp; omega) | omega))) | with_reducible refine below_call ?_ (by assumption)))⟩ <;> simp [go_sem]
  case round =>
    obtain ⟨k, m, c, L, rfl, hk, hc0, hr0, hcf0, hrf0, hsz, ho, hBw⟩ := hrel
    have hm : m ≤ 24 := by have := ho.out.len; have := HL.out k; omega
    have hz1 : w.heap.size + 1 < wr.heap.size := by omega
    have hz0 : w.heap.size < wr.heap.size := by omega
    by_cases hlt : k < 12
    · cases hf
      · go_wp2_with (at_builtin; refine wpList_app rfl _ _ rfl _ (w.heap.size + 2) _ _ _ (hwL false k) rfl (ho.out.alloc _) wr.heap.size rfl ((k + 1 : Nat) : Int) (by simp [go_sem]) (by omega) (by simp; omega) ?_; intro L2 c2 w2 ho2 hb2; have HO2 := Lib.hid ho2; clear ho2; obtain ⟨hcc, hrr, hcf, hrf, hz2, hB2⟩ := cells2 hb2 hsz hc0 hr0 hcf0 hrf0 hBw)
        go_roundw
        case rel =>
          refine ⟨k + 1, m + 1, c2, L2, by go_num, by omega, ?_, ?_, ?_, ?_, by simpa using hz2, Lib.hid (HO2.out.far (by simp) _), below_set hB2 (by simp) _⟩ <;> simp [go_sem, *]
        case measure => simp [intOf]; omega
      · go_wp2_with (first | (at_builtin; refine wpList_app rfl _ _ rfl _ (w.heap.size + 2) _ _ _ (hwL true k) rfl (ho.out.alloc _) wr.heap.size rfl ((k + 1 : Nat) : Int) (by simp [go_sem]) (by omega) (by simp; omega) ?_; intro L2 c2 w2 ho2 hb2; have HO2 := Lib.hid ho2; clear ho2; obtain ⟨hcc, hrr, hcf, hrf, hz2, hB2⟩ := cells2 hb2 hsz hc0 hr0 hcf0 hrf0 hBw; clear ho hc0 hr0 hcf0 hrf0 hBw hb2) | (at_builtin; refine wpList_app rfl _ _ rfl _ (w.heap.size + 2) _ _ _ (hwL true k ++ [((k + 1 : Nat) : Int)]) rfl ((HO2.out.far (by simp) _).alloc _) _ rfl 1 (by simp [go_sem]) (by omega) (by simp; omega) ?_; intro L3 c3 w3 ho3 hb3; have HO3 := Lib.hid ho3; clear ho3; obtain ⟨hcc3, hrr3, hcf3, hrf3, hz3, hB3⟩ := cells2 (u := .slice L2 (m + 1) c2) (v := .slice none 0 0) hb3 (by simpa using hz2) (by simp [go_sem, *]; done) (by simp [go_sem, *]; done) (by simp [go_sem, *]; done) (by simp [go_sem, *]; done) (below_set hB2 (by simp) _)))
        go_roundw
        case rel =>
          refine ⟨k + 1, m + 1 + 1, c3, L3, by go_num, by omega, ?_, ?_, ?_, ?_, by simpa using hz3, Lib.hid (HO3.out.far (by simp) _), below_set hB3 (by simp) _⟩ <;> simp [go_sem, *]
        case measure => simp [intOf]; omega
    · have HE := Lib.hid (show k = 12 by omega)
      go_wp2
      refine bodyPost_ret (v := .agg #[.slice L m c]) (by simp [results, Tryz.results70, go_sem, *]) rfl ⟨L, m, c, rfl, ?_, below_set hBw (by simp) _⟩
      have := (ho.out.far (p := ⟨w.heap.size, 0, none⟩) (by simp) (.slice L m c)).low (b0 := w.heap.size) (by omega)
      rw [HE.out] at this
      exact this
end Go.Proofs.YtajcbppndkkbpaaGreatDoor
