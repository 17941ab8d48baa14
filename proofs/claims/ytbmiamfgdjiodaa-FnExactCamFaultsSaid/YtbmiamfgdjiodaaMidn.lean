/- Contracts of the two functions MidnightSteps. No conditions but that a cam has at most 2^20 levels. -/
import Derived.Test.YtbmiamfgdjiodaaPerpOk2
namespace Go.Proofs.Ytbmiamfgdjiodaa
open Go.RowKit
set_option linter.unusedVariables false
set_option linter.unusedSimpArgs false
theorem vPerp_yes {zs : List Int} {n : Nat} {mo te ix da we wd : Int} (h : vPerp zs n mo te ix da we wd = true) :
    vCam zs = true ∧ 1 ≤ mo ∧ (n : Int).tmod mo = 0 ∧ (1 ≤ te ∧ te ≤ 60) ∧ (0 ≤ ix ∧ ix ≤ (n : Int) - 1) ∧ (1 ≤ da ∧ da ≤ te) ∧ (1 ≤ we ∧ we ≤ 12) ∧ 1 ≤ wd ∧ wd ≤ we := by
  simp only [vPerp, Bool.and_eq_true, decide_eq_true_eq] at h
  obtain ⟨h1, h2, h3, h4, _, h5, h6, h7, h8⟩ := h
  exact ⟨h1, h2, h3, inB_yes h4, inB_yes h5, inB_yes h6, inB_yes h7, inB_yes h8⟩
/-- the steps of the next midnight -/
def msI (zs : List Int) (te ix da : Int) : Int := if da = zs.getD ix.toNat 0 then te + 1 - da else 1
def midT (zs : List Int) (n : Nat) (mo te ix da we wd : Int) : Value := if vPerp zs n mo te ix da we wd then .tuple #[.int .i64 (msI zs te ix da), .int .i64 0] else .tuple #[.int .i64 0, .int .i64 1]
theorem mid_yes {zs : List Int} {n : Nat} {mo te ix da we wd : Int} (h : vPerp zs n mo te ix da we wd = true) : midT zs n mo te ix da we wd = .tuple #[.int .i64 (msI zs te ix da), .int .i64 0] := by rw [midT, h]; rfl
theorem mid_no {zs : List Int} {n : Nat} {mo te ix da we wd : Int} (h : vPerp zs n mo te ix da we wd = false) : midT zs n mo te ix da we wd = .tuple #[.int .i64 0, .int .i64 1] := by rw [midT, h]; rfl
theorem midT_form (zs : List Int) (n : Nat) (mo te ix da we wd : Int) : ∃ a b : Int, midT zs n mo te ix da we wd = .tuple #[.int .i64 a, .int .i64 b] := by
  unfold midT; split <;> exact ⟨_, _, rfl⟩
set_option maxHeartbeats 2000000 in
theorem midnightSteps_any (A : Option Addr) (n c B k : Nat) (zs : List Int) (mo te da we wd : Int) (w : World) (h : Ints w B A n zs) (hB : B ≤ w.heap.size) (hn : n ≤ 1048576) (hk : k < n) (d1 : 1 ≤ da) (d2 : da ≤ te) (d3 : te ≤ 60) :
    Calls Try.prog 101 #[.agg #[.slice A n c, .int .i64 mo, .int .i64 te, .int .i64 (k : Int), .int .i64 da, .int .i64 we, .int .i64 wd]] w fun e w' => e = .returned (.int .i64 (msI zs te (k : Int) da)) ∧ Below w.heap.size w w' := by
  obtain ⟨b, off, rfl, hbl, hc⟩ := (h.alloc hB (.cells #[.slice A n c, .int .i64 mo, .int .i64 te, .int .i64 (k : Int), .int .i64 da, .int .i64 we, .int .i64 wd] 50)).at_ hk
  have hm : msI zs te (k : Int) da = if da = zs.getD k 0 then te + 1 - da else 1 := by simp [msI]
  obtain ⟨x, hx⟩ : ∃ x, zs.getD k 0 = x := ⟨_, rfl⟩
  rw [hx] at hc hm
  have i0 : (0 : Int) ≤ (k : Int) := Int.natCast_nonneg _
  have i1 : (k : Int) < (n : Int) := by omega
  clear h hx
  by_cases e : da = x
  · have HM := Lib.hid (hm.trans (if_pos e))
    clear hm
    subst e
    go_enter Try.func101, Try.ntmps101
    go_wp2
    go_quiet (fail)
    go_wp2
    go_ret
    exact ⟨ret_int HM.out.symm, by (repeat (first | with_reducible exact Below.refl _ _ | with_reducible refine below_alloc ?_ _ | with_reducible refine below_drewN ?_ _ | with_reducible refine Below.drew ?_ | ((with_reducible refine below_set ?_ ?_ _); rotate_left; (focus (first | (simp; done) | (simp; omega) | omega))) | with_reducible refine below_call ?_ (by assumption)))⟩
  · have HM := Lib.hid (hm.trans (if_neg e))
    have e1 : (da == x) = false := by simpa using e
    clear hm
    go_enter Try.func101, Try.ntmps101
    go_wp2
    go_quiet (fail)
    go_wp2
    go_ret
    exact ⟨ret_int HM.out.symm, by (repeat (first | with_reducible exact Below.refl _ _ | with_reducible refine below_alloc ?_ _ | with_reducible refine below_drewN ?_ _ | with_reducible refine Below.drew ?_ | ((with_reducible refine below_set ?_ ?_ _); rotate_left; (focus (first | (simp; done) | (simp; omega) | omega))) | with_reducible refine below_call ?_ (by assumption)))⟩
set_option maxHeartbeats 2000000 in
theorem l18Steps_any (A : Option Addr) (n c B g k : Nat) (zs : List Int) (te da : Int) (w : World) (h : Ints w B A n zs) (hn : n ≤ 1048576) (hk : k < n) (d1 : 1 ≤ da) (d2 : da ≤ te) (d3 : te ≤ 60)
    (q0 : w.cell? ⟨g, 0, none⟩ = some (.slice A n c)) (q2 : w.cell? ⟨g, 2, none⟩ = some (.int .i64 te)) (q3 : w.cell? ⟨g, 3, none⟩ = some (.int .i64 (k : Int))) (q4 : w.cell? ⟨g, 4, none⟩ = some (.int .i64 da)) :
    Calls Try.prog 98 #[.pointer (some ⟨g, 0, none⟩)] w fun e w' => e = .returned (.int .i64 (msI zs te (k : Int) da)) ∧ ∃ m, w' = w.drewN m := by
  obtain ⟨b, off, rfl, hbl, hc⟩ := h.at_ hk
  have hm : msI zs te (k : Int) da = if da = zs.getD k 0 then te + 1 - da else 1 := by simp [msI]
  obtain ⟨x, hx⟩ : ∃ x, zs.getD k 0 = x := ⟨_, rfl⟩
  rw [hx] at hc hm
  have i0 : (0 : Int) ≤ (k : Int) := Int.natCast_nonneg _
  have i1 : (k : Int) < (n : Int) := by omega
  have s1 : IntKind.i64.wrap (te + 1) = te + 1 := IntWalk.i64_in _ (by omega)
  have s2 : IntKind.i64.wrap (te + 1 - da) = te + 1 - da := IntWalk.i64_in _ (by omega)
  clear h hx
  by_cases e : da = x
  · have HM := Lib.hid (hm.trans (if_pos e))
    clear hm
    subst e
    go_enter Try.func98, Try.ntmps98
    go_wp2
    go_quiet (fail)
    go_wp2
    go_quiet (fail)
    go_wp2
    go_ret
    exact ⟨ret_int HM.out.symm, by first | exact ⟨_, rfl⟩ | exact ⟨_, World.drewN_drewN _ _ _⟩⟩
  · have HM := Lib.hid (hm.trans (if_neg e))
    have e1 : (da == x) = false := by simpa using e
    clear hm
    go_enter Try.func98, Try.ntmps98
    go_wp2
    go_quiet (fail)
    go_wp2
    go_ret
    exact ⟨ret_int HM.out.symm, _, rfl⟩
end Go.Proofs.Ytbmiamfgdjiodaa
