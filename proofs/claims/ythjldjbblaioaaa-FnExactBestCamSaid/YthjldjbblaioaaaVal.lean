/- Contracts of the search for a month of a name: the closure, slices.IndexFunc, slices.ContainsFunc. No conditions but that there are fewer than 2^63 months. -/
import Derived.Test.YthjldjbblaioaaaCalOk
namespace Go.Proofs.Ythjldjbblaioaaa
open Go.RowKit
set_option linter.unusedVariables false
set_option linter.unusedSimpArgs false
set_option maxHeartbeats 1000000 in
theorem sameName_any (m : Mth) (x : ByteArray) (g : Nat) (w : World) (v : Bool) (hg : g < w.heap.size) (hc : w.cell? ⟨g, 0, none⟩ = some (.string x)) (hv : (m.nm.toList == x.toList) = v) :
    Calls Try.prog 97 #[.agg #[.string m.nm, .int .i64 m.dy, .int .i64 m.lp], .pointer (some ⟨g, 0, none⟩)] w fun e w' => e = .returned (.bool v) ∧ Below w.heap.size w w' := by
  cases v
  · have HQ := (show ¬ (m.nm.toList = x.toList) by simpa using hv)
    go_enter Try.func97, Try.ntmps97
    go_wp2
    go_ret
    exact ⟨rfl, by (repeat (first | with_reducible exact Below.refl _ _ | with_reducible refine below_alloc ?_ _ | with_reducible refine below_drewN ?_ _ | with_reducible refine Below.drew ?_ | ((with_reducible refine below_set ?_ ?_ _); rotate_left; (focus (first | (simp; done) | (simp; omega) | omega))) | with_reducible refine below_call ?_ (by assumption)))⟩
  · have HQ := Lib.hid (eq_of_beq hv)
    go_enter Try.func97, Try.ntmps97
    go_wp2
    go_ret
    exact ⟨rfl, by (repeat (first | with_reducible exact Below.refl _ _ | with_reducible refine below_alloc ?_ _ | with_reducible refine below_drewN ?_ _ | with_reducible refine Below.drew ?_ | ((with_reducible refine below_set ?_ ?_ _); rotate_left; (focus (first | (simp; done) | (simp; omega) | omega))) | with_reducible refine below_call ?_ (by assumption)))⟩
/-- one of the first n months has the name x -/
def hasName (ms : List Mth) (n : Nat) (x : List UInt8) : Bool := (List.range n).any (fun j => nmL ms j == x)
theorem hasName_yes {ms : List Mth} {n k : Nat} {x : List UInt8} (hk : k < n) (h : nmL ms k = x) : hasName ms n x = true := by
  unfold hasName
  rw [List.any_eq_true]
  exact ⟨k, List.mem_range.2 hk, by rw [h]; simp⟩
theorem hasName_no {ms : List Mth} {n : Nat} {x : List UInt8} (h : ∀ j, j < n → ¬ (nmL ms j = x)) : hasName ms n x = false := by
  unfold hasName
  rw [List.any_eq_false]
  intro j hj
  have := h j (List.mem_range.1 hj)
  simpa using this
set_option maxHeartbeats 2000000 in
theorem IndexFunc_any (A : Option Addr) (n c B g : Nat) (ms : List Mth) (x : ByteArray) (w : World) (h : Months w B A n ms) (hB : B ≤ w.heap.size) (hn : n ≤ 9223372036854775807) (hg : g < w.heap.size) (hc : w.cell? ⟨g, 0, none⟩ = some (.string x)) :
    Calls Try.prog 132 #[.slice A n c, .func (.func 97) #[] #[.pointer (some ⟨g, 0, none⟩)]] w fun e w' => ∃ r : Int, e = .returned (.int .i64 r) ∧ decide (0 ≤ r) = hasName ms n x.toList ∧ Below w.heap.size w w' := by
  have H := Lib.hid (Tri.more h hB)
  have HC := Lib.hid hc
  clear h hc
  go_enter Try.func132, Try.ntmps132
  go_wp2
  go_loopw [5, 8] (fun _ t wr => ∃ k : Nat, t = .int .i64 k ∧ k ≤ n ∧ Hid (∀ j, j < k → ¬ (nmL ms j = x.toList)) ∧ Below w.heap.size w wr) (fun _ t _ => n - (intOf t).toNat)
  case atStart => exact ⟨0, rfl, Nat.zero_le _, Lib.hid (fun j hj => absurd hj (by omega)), Below.refl _ _⟩
  case round =>
    obtain ⟨k, rfl, hk, hD, hb⟩ := hrel
    have i0 : (0 : Int) ≤ (k : Int) := Int.natCast_nonneg _
    by_cases hlt : k < n
    · have i1 : (k : Int) < (n : Int) := by omega
      obtain ⟨b, off, rfl, hbl, c1, c2, c3⟩ := Months.at_ (Tri.below H.out hb) hlt
      obtain ⟨m, hm⟩ : ∃ m, ms.getD k m0 = m := ⟨_, rfl⟩
      rw [hm] at c1 c2 c3
      have HNK := Lib.hid (show nmL ms k = m.nm.toList by unfold nmL; rw [hm, ByteArray.toList_eq])
      have hg2 := lt_call hb hg
      have hc2 := cell_call hb (p := ⟨g, 0, none⟩) (by simpa using hg) HC.out
      have HB := Lib.hid hb
      clear hm hb
      cases hq : (m.nm.toList == x.toList)
      · have HQ := Lib.hid hq
        clear hq
        go_wp2_with (first | (go_at_call 97; refine (sameName_any m x g _ false hg2 hc2 HQ.out).mono ?_; rintro e w2 ⟨rfl, hb2⟩; have HB2 := Lib.hid (below_call HB.out hb2); clear hb2) | fail)
        go_roundw
        case rel =>
          refine ⟨k + 1, by go_num, by omega, Lib.hid (fun j hj => ?_), HB2.out⟩
          by_cases e : j = k
          · subst e; rw [HNK.out]; have := HQ.out; simpa using this
          · exact hD.out j (by omega)
        case measure => simp [intOf]; omega
      · have HQ := Lib.hid hq
        clear hq
        go_wp2_with (first | (go_at_call 97; refine (sameName_any m x g _ true hg2 hc2 HQ.out).mono ?_; rintro e w2 ⟨rfl, hb2⟩; have HB2 := Lib.hid (below_call HB.out hb2); clear hb2) | fail)
        go_ret
        exact ⟨_, rfl, by rw [hasName_yes hlt (HNK.out.trans (eq_of_beq HQ.out))]; simp, HB2.out⟩
    · have HV := Lib.hid (show hasName ms n x.toList = false from hasName_no (fun j hj => hD.out j (by omega)))
      go_wp2
      go_ret
      exact ⟨_, rfl, by rw [HV.out]; decide, hb⟩
set_option maxHeartbeats 1000000 in
theorem ContainsFunc_any (A : Option Addr) (n c B g : Nat) (ms : List Mth) (x : ByteArray) (w : World) (h : Months w B A n ms) (hB : B ≤ w.heap.size) (hn : n ≤ 9223372036854775807) (hg : g < w.heap.size) (hc : w.cell? ⟨g, 0, none⟩ = some (.string x)) :
    Calls Try.prog 96 #[.slice A n c, .func (.func 97) #[] #[.pointer (some ⟨g, 0, none⟩)]] w fun e w' => e = .returned (.bool (hasName ms n x.toList)) ∧ Below w.heap.size w w' := by
  have HI := Lib.hid (IndexFunc_any A n c B g ms x w h hB hn hg hc)
  clear h hc
  go_enter Try.func96, Try.ntmps96
  go_wp2_with (first | (go_at_call 132; refine HI.out.mono ?_; rintro e w2 ⟨r, rfl, hr, hb2⟩; have HR := Lib.hid hr; have HB2 := Lib.hid hb2; clear hr hb2) | fail)
  go_ret
  exact ⟨by rw [← HR.out]; rfl, HB2.out⟩
end Go.Proofs.Ythjldjbblaioaaa
