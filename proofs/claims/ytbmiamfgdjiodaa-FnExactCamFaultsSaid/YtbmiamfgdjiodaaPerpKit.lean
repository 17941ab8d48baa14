/- Words for laws whose result is a perpetual work: the laws' marks on a cam, and how long a result's cam is. No conditions but that a cam has at most 2^20 levels. -/
import Derived.Test.YtbmiamfgdjiodaaPush
namespace Go.Proofs.Ytbmiamfgdjiodaa
open Go.RowKit
set_option linter.unusedVariables false
set_option linter.unusedSimpArgs false
theorem rPushMonth_len (zs : List Int) (n : Nat) (mo te ix da we wd : Int) (hn : n ≤ 1048576) : (rPushMonth zs n mo te ix da we wd).1 ≤ 1048576 := by unfold rPushMonth; split <;> simp [okP, badP, hn]
theorem rPushWeekday_len (zs : List Int) (n : Nat) (mo te ix da we wd : Int) (hn : n ≤ 1048576) : (rPushWeekday zs n mo te ix da we wd).1 ≤ 1048576 := by unfold rPushWeekday; split <;> simp [okP, badP, hn]
theorem rPushDate_len (zs : List Int) (n : Nat) (mo te ix da we wd : Int) (hn : n ≤ 1048576) : (rPushDate zs n mo te ix da we wd).1 ≤ 1048576 := by unfold rPushDate; split <;> simp [okP, badP, hn]
set_option maxHeartbeats 400000 in
theorem markPerpetual_any (A : Option Addr) (n c lo hi : Nat) (zs : List Int) (mo te ix da we wd k : Int) (w : World) (h : OwnIn w lo hi A n c zs) (hh : hi ≤ w.heap.size) (hn : n ≤ 1048576) (hk0 : 0 ≤ k) (hk1 : k ≤ 1000000000000) :
    Calls Try.prog 26 #[.agg #[.slice A n c, .int .i64 mo, .int .i64 te, .int .i64 ix, .int .i64 da, .int .i64 we, .int .i64 wd], .int .i64 k] w fun e w' => e = .returned (.int .i64 (k + n)) ∧ OwnIn w' lo hi A n c (marks k n) ∧ w.grownBy w' (Value.slice A n c).ownBlock := by
  have H := Lib.hid h
  clear h
  go_enter Try.func26, Try.ntmps26
  go_wp2_with fail
  refine (markInt64S_any A n c lo zs k _ (H.out.1.alloc _) hn hk0 hk1).mono ?_
  rintro e w1 ⟨rfl, ho1, hg1⟩
  have O1 := Lib.hid ho1
  have G1 := Lib.hid hg1
  clear ho1 hg1
  go_wp2
  go_ret
  refine ⟨rfl, H.out.self O1.out, ?_⟩
  exact (World.grownBy_alloc w _ _).trans G1.out
set_option maxHeartbeats 400000 in
theorem heldPerpetual_any (A : Option Addr) (n c B : Nat) (k : Int) (mo te ix da we wd : Int) (w : World) (h : Ints w B A n (marks k n)) (hB : B ≤ w.heap.size) (hn : n ≤ 1048576) (hk0 : 0 ≤ k) (hk1 : k ≤ 1000000000000) :
    Calls Try.prog 27 #[.agg #[.slice A n c, .int .i64 mo, .int .i64 te, .int .i64 ix, .int .i64 da, .int .i64 we, .int .i64 wd], .int .i64 k] w fun e w' => e = .returned (.int .i64 (k + n)) ∧ Below w.heap.size w w' := by
  have H := Lib.hid h
  clear h
  go_enter Try.func27, Try.ntmps27
  go_wp2_with fail
  refine (heldInt64S_any A n c B k _ (H.out.alloc hB _) hn hk0 hk1).mono ?_
  rintro e w1 ⟨rfl, rfl⟩
  go_wp2
  go_ret
  exact ⟨rfl, by (repeat (first | with_reducible exact Below.refl _ _ | with_reducible refine below_alloc ?_ _ | with_reducible refine below_drewN ?_ _ | with_reducible refine Below.drew ?_ | ((with_reducible refine below_set ?_ ?_ _); rotate_left; (focus (first | (simp; done) | (simp; omega) | omega))) | with_reducible refine below_call ?_ (by assumption)))⟩
end Go.Proofs.Ytbmiamfgdjiodaa
