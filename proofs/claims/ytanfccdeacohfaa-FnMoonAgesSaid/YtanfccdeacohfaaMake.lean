/- Contracts of the functions that make a ratio of two numbers. No conditions but bounds that keep int64 from wrapping, and that the second number is not 0. -/
import Derived.Test.YtanfccdeacohfaaRatio
namespace Go.Proofs.Ytanfccdeacohfaa
open Go.RowKit
set_option linter.unusedVariables false
set_option linter.unusedSimpArgs false

set_option maxHeartbeats 400000 in
theorem magnitude_any (n : Int) (w : World) (h1 : -4000000000000000000 ≤ n) (h2 : n ≤ 4000000000000000000) :
    Calls Try.prog 84 #[.int .i64 n] w fun e w' => e = .returned (.int .u64 (n.natAbs : Int)) ∧ w = w' := by
  by_cases hn : n < 0
  · go_enter Try.func84, Try.ntmps84
    go_wp2
    go_ret
    exact ⟨ret_int (by simp [IntKind.wrap, IntKind.bits, IntKind.signed]; omega), rfl⟩
  · go_enter Try.func84, Try.ntmps84
    go_wp2
    go_ret
    exact ⟨ret_int (by omega), rfl⟩
set_option maxHeartbeats 400000 in
theorem l02Part_any (n : Int) (w : World) (h1 : -4000000000000000000 ≤ n) (h2 : n ≤ 4000000000000000000) :
    Calls Try.prog 81 #[.int .i64 n] w fun e w' => e = .returned (.int .u64 (n.natAbs : Int)) ∧ w = w' := by
  by_cases hn : n < 0
  · go_enter Try.func81, Try.ntmps81
    go_wp2
    go_ret
    exact ⟨ret_int (by simp [IntKind.wrap, IntKind.bits, IntKind.signed]; omega), rfl⟩
  · go_enter Try.func81, Try.ntmps81
    go_wp2
    go_ret
    exact ⟨ret_int (by omega), rfl⟩
/-- what a ratio of n and d is, and whether it is valid -/
def gI (n d : Int) : Int := (Int.gcd n d : Int)
def redN (n d : Int) : Int := if decide (n < 0) = decide (d < 0) then (n.natAbs : Int) / gI n d else -((n.natAbs : Int) / gI n d)
def redD (n d : Int) : Int := (d.natAbs : Int) / gI n d
def redB (n d : Int) : Bool := decide ((n.natAbs : Int) / gI n d ≤ 1000000000) && decide ((d.natAbs : Int) / gI n d ≤ 1000000000)
def redT (n d : Int) : Value := if redB n d then .tuple #[.agg #[.int .i64 (redN n d), .int .i64 (redD n d)], .bool true] else .tuple #[.agg #[.int .i64 0, .int .i64 0], .bool false]
theorem redT_form (n d : Int) : ∃ a b : Int, redT n d = .tuple #[.agg #[.int .i64 a, .int .i64 b], .bool (redB n d)] := by
  unfold redT
  cases h : redB n d
  · exact ⟨_, _, rfl⟩
  · exact ⟨_, _, rfl⟩
theorem redT_no1 {n d A g : Int} (hA : (n.natAbs : Int) = A) (hg : gI n d = g) (h : 1000000000 < A / g) : redT n d = .tuple #[.agg #[.int .i64 0, .int .i64 0], .bool false] := by
  have : redB n d = false := by unfold redB; rw [hA, hg]; simp; omega
  rw [redT, this]; rfl
theorem redT_no2 {n d B g : Int} (hB : (d.natAbs : Int) = B) (hg : gI n d = g) (h : 1000000000 < B / g) : redT n d = .tuple #[.agg #[.int .i64 0, .int .i64 0], .bool false] := by
  have : redB n d = false := by unfold redB; rw [hB, hg]; simp; omega
  rw [redT, this]; rfl
theorem redT_yes {n d A B g : Int} (hA : (n.natAbs : Int) = A) (hB : (d.natAbs : Int) = B) (hg : gI n d = g) (h : A / g ≤ 1000000000) (h' : B / g ≤ 1000000000) :
    redT n d = .tuple #[.agg #[.int .i64 (if decide (n < 0) = decide (d < 0) then A / g else -(A / g)), .int .i64 (B / g)], .bool true] := by
  have : redB n d = true := by unfold redB; rw [hA, hB, hg]; simp [h, h']
  rw [redT, this, redN, redD, hA, hB, hg]; rfl
theorem gI_pos {n d : Int} (hd : d ≠ 0) : 0 < gI n d := by
  have : 0 < Int.gcd n d := Int.gcd_pos_of_ne_zero_right _ hd
  unfold gI; omega
theorem gcd_abs (n d : Int) : Int.gcd (n.natAbs : Int) (d.natAbs : Int) = Int.gcd n d := by simp [Int.gcd]

set_option maxHeartbeats 2000000 in
theorem reduced_core (n d A B g : Int) (V : Value) (w : World) (C1 : ∀ w, Calls Try.prog 84 #[.int .i64 n] w fun e w' => e = .returned (.int .u64 A) ∧ w = w')
    (C2 : ∀ w, Calls Try.prog 84 #[.int .i64 d] w fun e w' => e = .returned (.int .u64 B) ∧ w = w') (hg : Hid ((Int.gcd A B : Int) = g))
    (hA : 0 ≤ A) (hA' : A ≤ 4000000000000000000) (hB : 0 ≤ B) (hB' : B ≤ 4000000000000000000) (hg0 : 1 ≤ g)
    (hV : (1000000000 < A / g ∨ (A / g ≤ 1000000000 ∧ 1000000000 < B / g)) ∧ V = .tuple #[.agg #[.int .i64 0, .int .i64 0], .bool false] ∨ (A / g ≤ 1000000000 ∧ B / g ≤ 1000000000) ∧ ((n < 0 ∧ d < 0 ∨ 0 ≤ n ∧ 0 ≤ d) ∧ V = .tuple #[.agg #[.int .i64 (A / g), .int .i64 (B / g)], .bool true] ∨ (n < 0 ∧ 0 ≤ d ∨ 0 ≤ n ∧ d < 0) ∧ V = .tuple #[.agg #[.int .i64 (-(A / g)), .int .i64 (B / g)], .bool true])) :
    Calls Try.prog 82 #[.int .i64 n, .int .i64 d] w fun e w' => e = .returned V ∧ Below w.heap.size w w' := by
  have qa0 := Int.ediv_nonneg hA (show 0 ≤ g by omega)
  have qb0 := Int.ediv_nonneg hB (show 0 ≤ g by omega)
  have K1 := Lib.hid C1
  have K2 := Lib.hid C2
  clear C1 C2
  go_enter Try.func82, Try.ntmps82
  go_wp2_with fail
  refine (K1.out _).mono ?_
  rintro e w' ⟨rfl, rfl⟩
  go_wp2_with fail
  refine (K2.out _).mono ?_
  rintro e w' ⟨rfl, rfl⟩
  go_wp2
  go_loopw [8, 9] (fun s t wr => ∃ x y : Int, ∃ k : Nat, s = .int .u64 x ∧ t = .int .u64 y ∧ Hid ((Int.gcd x y : Int) = g) ∧ 0 ≤ x ∧ 0 ≤ y ∧ x ≤ 4000000000000000000 ∧ y ≤ 4000000000000000000 ∧ wr = (w.alloc (.cells #[.int .i64 0, .int .i64 0] 27)).drewN k) (fun _ t _ => (intOf t).toNat)
  case atStart => exact ⟨A, B, 0, rfl, rfl, hg, hA, hB, hA', hB', rfl⟩
  case round =>
    obtain ⟨x, y, k, rfl, rfl, hh, hx, hy, hx', hy', rfl⟩ := hrel
    by_cases hz : y = 0
    · subst hz
      obtain rfl : x = g := by have := hh.out; simp at this; omega
      have qa : IntKind.u64.wrap (A.tdiv x) = A / x := IntWalk.u64_quo _ _ (by omega)
      have qb : IntKind.u64.wrap (B.tdiv x) = B / x := IntWalk.u64_quo _ _ (by omega)
      have HV := Lib.hid hV
      clear hV
      rcases HV.out with ⟨h1 | ⟨h1, h2⟩, e1⟩ | ⟨⟨h1, h2⟩, ⟨⟨h3, h4⟩ | ⟨h3, h4⟩, e1⟩ | ⟨⟨h3, h4⟩ | ⟨h3, h4⟩, e1⟩⟩
      all_goals clear HV
      all_goals try have d1 : decide (n < 0) = true := decide_eq_true (by omega)
      all_goals try have d1 : decide (n < 0) = false := decide_eq_false (by omega)
      all_goals try have d2 : decide (d < 0) = true := decide_eq_true (by omega)
      all_goals try have d2 : decide (d < 0) = false := decide_eq_false (by omega)
      all_goals have E1 := Lib.hid e1
      all_goals clear e1
      all_goals (go_wp2; go_quiet (fail); go_wp2)
      all_goals first
        | (refine bodyPost_ret (v := .tuple #[.agg #[.int .i64 0, .int .i64 0], .bool false]) ?_ rfl ⟨?_, ?_⟩
           · simp [results, Try.results82, go_sem]
           · rw [E1.out]
           · (repeat (first | with_reducible exact Below.refl _ _ | with_reducible refine below_alloc ?_ _ | with_reducible refine below_drewN ?_ _ | with_reducible refine Below.drew ?_ | ((with_reducible refine below_set ?_ ?_ _); rotate_left; (focus (first | (simp; done) | (simp; omega) | omega))) | with_reducible refine below_call ?_ (by assumption))))
        | (refine bodyPost_ret (v := .tuple #[.agg #[.int .i64 (A / x), .int .i64 (B / x)], .bool true]) ?_ rfl ⟨?_, ?_⟩
           · simp [results, Try.results82, go_sem]
           · rw [E1.out]
           · (repeat (first | with_reducible exact Below.refl _ _ | with_reducible refine below_alloc ?_ _ | with_reducible refine below_drewN ?_ _ | with_reducible refine Below.drew ?_ | ((with_reducible refine below_set ?_ ?_ _); rotate_left; (focus (first | (simp; done) | (simp; omega) | omega))) | with_reducible refine below_call ?_ (by assumption))))
        | (refine bodyPost_ret (v := .tuple #[.agg #[.int .i64 (-(A / x)), .int .i64 (B / x)], .bool true]) ?_ rfl ⟨?_, ?_⟩
           · simp [results, Try.results82, go_sem]
           · rw [E1.out]
           · (repeat (first | with_reducible exact Below.refl _ _ | with_reducible refine below_alloc ?_ _ | with_reducible refine below_drewN ?_ _ | with_reducible refine Below.drew ?_ | ((with_reducible refine below_set ?_ ?_ _); rotate_left; (focus (first | (simp; done) | (simp; omega) | omega))) | with_reducible refine below_call ?_ (by assumption))))
    · have hs := gcd_step x y
      rw [Int.tmod_eq_emod_of_nonneg hx] at hs
      have HS := Lib.hid (show ((Int.gcd y (x % y) : Nat) : Int) = g by rw [hs]; exact hh.out)
      clear hs
      have hm := Int.emod_nonneg x hz
      have hl := Int.emod_lt_of_pos x (show 0 < y by omega)
      go_wp2
      go_quiet (fail)
      go_wp2
      go_roundw
      case rel => exact ⟨y, x % y, _, rfl, rfl, Lib.hid HS.out, hy, hm, hy', by omega, World.drewN_drewN _ _ _⟩
      case measure => simp [intOf]; omega
set_option maxHeartbeats 2000000 in
theorem l02Make_core (n d A B g : Int) (V : Value) (w : World) (C1 : ∀ w, Calls Try.prog 81 #[.int .i64 n] w fun e w' => e = .returned (.int .u64 A) ∧ w = w')
    (C2 : ∀ w, Calls Try.prog 81 #[.int .i64 d] w fun e w' => e = .returned (.int .u64 B) ∧ w = w') (hg : Hid ((Int.gcd A B : Int) = g))
    (hA : 0 ≤ A) (hA' : A ≤ 4000000000000000000) (hB : 0 ≤ B) (hB' : B ≤ 4000000000000000000) (hg0 : 1 ≤ g)
    (hV : (1000000000 < A / g ∨ (A / g ≤ 1000000000 ∧ 1000000000 < B / g)) ∧ V = .tuple #[.agg #[.int .i64 0, .int .i64 0], .bool false] ∨ (A / g ≤ 1000000000 ∧ B / g ≤ 1000000000) ∧ ((n < 0 ∧ d < 0 ∨ 0 ≤ n ∧ 0 ≤ d) ∧ V = .tuple #[.agg #[.int .i64 (A / g), .int .i64 (B / g)], .bool true] ∨ (n < 0 ∧ 0 ≤ d ∨ 0 ≤ n ∧ d < 0) ∧ V = .tuple #[.agg #[.int .i64 (-(A / g)), .int .i64 (B / g)], .bool true])) :
    Calls Try.prog 71 #[.int .i64 n, .int .i64 d] w fun e w' => e = .returned V ∧ Below w.heap.size w w' := by
  have qa0 := Int.ediv_nonneg hA (show 0 ≤ g by omega)
  have qb0 := Int.ediv_nonneg hB (show 0 ≤ g by omega)
  have K1 := Lib.hid C1
  have K2 := Lib.hid C2
  clear C1 C2
  go_enter Try.func71, Try.ntmps71
  go_wp2_with fail
  refine (K1.out _).mono ?_
  rintro e w' ⟨rfl, rfl⟩
  go_wp2_with fail
  refine (K2.out _).mono ?_
  rintro e w' ⟨rfl, rfl⟩
  go_wp2
  go_loopw [8, 9, 10] (fun s t u wr => ∃ x y : Int, ∃ k : Nat, s = .int .u64 x ∧ t = .int .u64 y ∧ Hid ((Int.gcd x y : Int) = g) ∧ 0 ≤ x ∧ 0 ≤ y ∧ x ≤ 4000000000000000000 ∧ y ≤ 4000000000000000000 ∧ wr = (w.alloc (.cells #[.int .i64 0, .int .i64 0] 27)).drewN k) (fun _ t _ _ => (intOf t).toNat)
  case atStart => exact ⟨A, B, 0, rfl, rfl, hg, hA, hB, hA', hB', rfl⟩
  case round =>
    obtain ⟨x, y, k, rfl, rfl, hh, hx, hy, hx', hy', rfl⟩ := hrel
    by_cases hz : y = 0
    · subst hz
      obtain rfl : x = g := by have := hh.out; simp at this; omega
      have qa : IntKind.u64.wrap (A.tdiv x) = A / x := IntWalk.u64_quo _ _ (by omega)
      have qb : IntKind.u64.wrap (B.tdiv x) = B / x := IntWalk.u64_quo _ _ (by omega)
      have HV := Lib.hid hV
      clear hV
      rcases HV.out with ⟨h1 | ⟨h1, h2⟩, e1⟩ | ⟨⟨h1, h2⟩, ⟨⟨h3, h4⟩ | ⟨h3, h4⟩, e1⟩ | ⟨⟨h3, h4⟩ | ⟨h3, h4⟩, e1⟩⟩
      all_goals clear HV
      all_goals try have d1 : decide (n < 0) = true := decide_eq_true (by omega)
      all_goals try have d1 : decide (n < 0) = false := decide_eq_false (by omega)
      all_goals try have d2 : decide (d < 0) = true := decide_eq_true (by omega)
      all_goals try have d2 : decide (d < 0) = false := decide_eq_false (by omega)
      all_goals have E1 := Lib.hid e1
      all_goals clear e1
      all_goals go_wp2
      all_goals first
        | (refine bodyPost_ret (v := .tuple #[.agg #[.int .i64 0, .int .i64 0], .bool false]) ?_ rfl ⟨?_, ?_⟩
           · simp [results, Try.results71, go_sem]
           · rw [E1.out]
           · (repeat (first | with_reducible exact Below.refl _ _ | with_reducible refine below_alloc ?_ _ | with_reducible refine below_drewN ?_ _ | with_reducible refine Below.drew ?_ | ((with_reducible refine below_set ?_ ?_ _); rotate_left; (focus (first | (simp; done) | (simp; omega) | omega))) | with_reducible refine below_call ?_ (by assumption))))
        | (refine bodyPost_ret (v := .tuple #[.agg #[.int .i64 (A / x), .int .i64 (B / x)], .bool true]) ?_ rfl ⟨?_, ?_⟩
           · simp [results, Try.results71, go_sem]
           · rw [E1.out]
           · (repeat (first | with_reducible exact Below.refl _ _ | with_reducible refine below_alloc ?_ _ | with_reducible refine below_drewN ?_ _ | with_reducible refine Below.drew ?_ | ((with_reducible refine below_set ?_ ?_ _); rotate_left; (focus (first | (simp; done) | (simp; omega) | omega))) | with_reducible refine below_call ?_ (by assumption))))
        | (refine bodyPost_ret (v := .tuple #[.agg #[.int .i64 (-(A / x)), .int .i64 (B / x)], .bool true]) ?_ rfl ⟨?_, ?_⟩
           · simp [results, Try.results71, go_sem]
           · rw [E1.out]
           · (repeat (first | with_reducible exact Below.refl _ _ | with_reducible refine below_alloc ?_ _ | with_reducible refine below_drewN ?_ _ | with_reducible refine Below.drew ?_ | ((with_reducible refine below_set ?_ ?_ _); rotate_left; (focus (first | (simp; done) | (simp; omega) | omega))) | with_reducible refine below_call ?_ (by assumption))))
    · have hs := gcd_step x y
      rw [Int.tmod_eq_emod_of_nonneg hx] at hs
      have HS := Lib.hid (show ((Int.gcd y (x % y) : Nat) : Int) = g by rw [hs]; exact hh.out)
      clear hs
      have hm := Int.emod_nonneg x hz
      have hl := Int.emod_lt_of_pos x (show 0 < y by omega)
      go_wp2
      go_roundw
      case rel => exact ⟨y, x % y, k, rfl, rfl, Lib.hid HS.out, hy, hm, hy', by omega, rfl⟩
      case measure => simp [intOf]; omega
end Go.Proofs.Ytanfccdeacohfaa
