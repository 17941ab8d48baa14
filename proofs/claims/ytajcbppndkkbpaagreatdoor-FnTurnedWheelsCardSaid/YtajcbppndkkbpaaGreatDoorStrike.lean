/- Contracts of TotalBlows, StrikeOnce and LiftsUntil, the program's and the reference's. No conditions but that a wheel has at most 2^20 gaps. -/
import Derived.Test.YtajcbppndkkbpaaGreatDoorWheel
namespace Go.Proofs.YtajcbppndkkbpaaGreatDoor
open Go.RowKit
set_option linter.unusedVariables false
set_option linter.unusedSimpArgs false

/-- the sum of the first k numbers -/
def sumK (zs : List Int) : Nat → Int
  | 0 => 0
  | k + 1 => sumK zs k + zs.getD k 0
theorem sumK_bd {zs : List Int} (h : ∀ j, j < zs.length → 1 ≤ zs.getD j 0 ∧ zs.getD j 0 ≤ 12) : ∀ k, k ≤ zs.length → (k : Int) ≤ sumK zs k ∧ sumK zs k ≤ 12 * k
  | 0, _ => by simp [sumK]
  | k + 1, hk => by
    have := sumK_bd h k (by omega)
    have := h k (by omega)
    simp only [sumK]
    omega
def totT (zs : List Int) (n : Nat) : Value := if vWheel zs then .tuple #[.int .i64 (sumK zs n), .int .i64 0] else .tuple #[.int .i64 0, .int .i64 1]
theorem tot_yes {zs : List Int} {n : Nat} (h : vWheel zs = true) : totT zs n = .tuple #[.int .i64 (sumK zs n), .int .i64 0] := by simp [totT, h]
theorem tot_no {zs : List Int} {n : Nat} (h : vWheel zs = false) : totT zs n = .tuple #[.int .i64 0, .int .i64 1] := by simp [totT, h]
theorem totT_form (zs : List Int) (n : Nat) : ∃ a b : Int, totT zs n = .tuple #[.int .i64 a, .int .i64 b] := by
  unfold totT; split <;> exact ⟨_, _, rfl⟩
theorem len_sub {n : Nat} : (n : Int) - 1 = (n : Int) - 1 := rfl
set_option maxHeartbeats 400000 in
theorem isNotch_any (A : Option Addr) (n c : Nat) (x : Int) (w : World) (hn : n ≤ 1048576) :
    Calls Tryz.prog 20 #[.agg #[.slice A n c], .int .i64 x] w fun e w' => e = .returned (.bool (inB x 0 ((n : Int) - 1))) ∧ Below w.heap.size w w' := by
  go_enter Tryz.func20, Tryz.ntmps20
  go_wp2_with (go_at_call 39; refine (within_any _ _ _ _).mono ?_; rintro e w' ⟨rfl, rfl⟩)
  go_ret
  exact ⟨rfl, by (repeat (first | with_reducible exact Below.refl _ _ | with_reducible refine below_alloc ?_ _ | with_reducible refine below_drewN ?_ _ | with_reducible refine Below.drew ?_ | ((with_reducible refine below_set ?_ ?_ _); rotate_left; (focus (first | (simp; done) | (simp; omega) | omega))) | with_reducible refine below_call ?_ (by assumption)))⟩
/-- the code of a wheel and a notch -/
def codeI (zs : List Int) (n : Nat) (x : Int) : Int := if vWheel zs then if inB x 0 ((n : Int) - 1) then 0 else 2 else 1
theorem code_bad {zs : List Int} {n : Nat} {x : Int} (h : vWheel zs = false) : codeI zs n x = 1 := by simp [codeI, h]
theorem code_far {zs : List Int} {n : Nat} {x : Int} (h : vWheel zs = true) (h' : inB x 0 ((n : Int) - 1) = false) : codeI zs n x = 2 := by simp [codeI, h, h']
theorem code_ok {zs : List Int} {n : Nat} {x : Int} (h : vWheel zs = true) (h' : inB x 0 ((n : Int) - 1) = true) : codeI zs n x = 0 := by simp [codeI, h, h']
set_option maxHeartbeats 800000 in
theorem l20Code_any (A : Option Addr) (n c B : Nat) (zs : List Int) (x : Int) (w : World) (h : Ints w B A n zs) (hB : B ≤ w.heap.size) (hn : n ≤ 1048576) :
    Calls Tryz.prog 22 #[.agg #[.slice A n c], .int .i64 x] w fun e w' => e = .returned (.int .i64 (codeI zs n x)) ∧ Below w.heap.size w w' := by
  have H := Lib.hid (h.more hB)
  clear h
  cases hv : vWheel zs
  · rw [code_bad hv]
    go_enter Tryz.func22, Tryz.ntmps22
    go_wp2_with fail
    refine (l20Ok_any _ _ _ _ zs _ (by exact Ints.below (H.out) (by (repeat (first | with_reducible exact Below.refl _ _ | with_reducible refine below_alloc ?_ _ | with_reducible refine below_drewN ?_ _ | with_reducible refine Below.drew ?_ | ((with_reducible refine below_set ?_ ?_ _); rotate_left; (focus (first | (simp; done) | (simp; omega) | omega))) | with_reducible refine below_call ?_ (by assumption))))) (by exact Below.size (B := w.heap.size) (w := w) (by (repeat (first | with_reducible exact Below.refl _ _ | with_reducible refine below_alloc ?_ _ | with_reducible refine below_drewN ?_ _ | with_reducible refine Below.drew ?_ | ((with_reducible refine below_set ?_ ?_ _); rotate_left; (focus (first | (simp; done) | (simp; omega) | omega))) | with_reducible refine below_call ?_ (by assumption))))) hn).mono ?_
    rintro e w1 ⟨rfl, hb1⟩
    obtain ⟨hc1, hf1, hs1⟩ := bcell hb1
    (try (refine cut_ (p := w.heap.size < w1.heap.size) ?_ ?_; (focus (refine hs1 _ ?_; first | assumption | omega | (simp [go_sem]; done) | (simp [go_sem]; omega))); intro hl1a))
    (try (refine cut_ (p := w.heap.size + 1 < w1.heap.size) ?_ ?_; (focus (refine hs1 _ ?_; first | assumption | omega | (simp [go_sem]; done) | (simp [go_sem]; omega))); intro hl1b))
    (try (refine cut_ (p := w.heap.size + 1 + 1 < w1.heap.size) ?_ ?_; (focus (refine hs1 _ ?_; first | assumption | omega | (simp [go_sem]; done) | (simp [go_sem]; omega))); intro hl1c))
    go_wp2
    go_ret
    exact ⟨rfl, by (repeat (first | with_reducible exact Below.refl _ _ | with_reducible refine below_alloc ?_ _ | with_reducible refine below_drewN ?_ _ | with_reducible refine Below.drew ?_ | ((with_reducible refine below_set ?_ ?_ _); rotate_left; (focus (first | (simp; done) | (simp; omega) | omega))) | with_reducible refine below_call ?_ (by assumption)))⟩
  · cases hi : inB x 0 ((n : Int) - 1)
    · rw [code_far hv hi]
      go_enter Tryz.func22, Tryz.ntmps22
      go_wp2_with fail
      refine (l20Ok_any _ _ _ _ zs _ (by exact Ints.below (H.out) (by (repeat (first | with_reducible exact Below.refl _ _ | with_reducible refine below_alloc ?_ _ | with_reducible refine below_drewN ?_ _ | with_reducible refine Below.drew ?_ | ((with_reducible refine below_set ?_ ?_ _); rotate_left; (focus (first | (simp; done) | (simp; omega) | omega))) | with_reducible refine below_call ?_ (by assumption))))) (by exact Below.size (B := w.heap.size) (w := w) (by (repeat (first | with_reducible exact Below.refl _ _ | with_reducible refine below_alloc ?_ _ | with_reducible refine below_drewN ?_ _ | with_reducible refine Below.drew ?_ | ((with_reducible refine below_set ?_ ?_ _); rotate_left; (focus (first | (simp; done) | (simp; omega) | omega))) | with_reducible refine below_call ?_ (by assumption))))) hn).mono ?_
      rintro e w1 ⟨rfl, hb1⟩
      obtain ⟨hc1, hf1, hs1⟩ := bcell hb1
      (try (refine cut_ (p := w.heap.size < w1.heap.size) ?_ ?_; (focus (refine hs1 _ ?_; first | assumption | omega | (simp [go_sem]; done) | (simp [go_sem]; omega))); intro hl1a))
      (try (refine cut_ (p := w.heap.size + 1 < w1.heap.size) ?_ ?_; (focus (refine hs1 _ ?_; first | assumption | omega | (simp [go_sem]; done) | (simp [go_sem]; omega))); intro hl1b))
      (try (refine cut_ (p := w.heap.size + 1 + 1 < w1.heap.size) ?_ ?_; (focus (refine hs1 _ ?_; first | assumption | omega | (simp [go_sem]; done) | (simp [go_sem]; omega))); intro hl1c))
      go_wp2_with (go_at_call 44; refine (l00In_any _ _ _ _).mono ?_; rintro e w' ⟨rfl, rfl⟩)
      go_ret
      exact ⟨rfl, by (repeat (first | with_reducible exact Below.refl _ _ | with_reducible refine below_alloc ?_ _ | with_reducible refine below_drewN ?_ _ | with_reducible refine Below.drew ?_ | ((with_reducible refine below_set ?_ ?_ _); rotate_left; (focus (first | (simp; done) | (simp; omega) | omega))) | with_reducible refine below_call ?_ (by assumption)))⟩
    · rw [code_ok hv hi]
      go_enter Tryz.func22, Tryz.ntmps22
      go_wp2_with fail
      refine (l20Ok_any _ _ _ _ zs _ (by exact Ints.below (H.out) (by (repeat (first | with_reducible exact Below.refl _ _ | with_reducible refine below_alloc ?_ _ | with_reducible refine below_drewN ?_ _ | with_reducible refine Below.drew ?_ | ((with_reducible refine below_set ?_ ?_ _); rotate_left; (focus (first | (simp; done) | (simp; omega) | omega))) | with_reducible refine below_call ?_ (by assumption))))) (by exact Below.size (B := w.heap.size) (w := w) (by (repeat (first | with_reducible exact Below.refl _ _ | with_reducible refine below_alloc ?_ _ | with_reducible refine below_drewN ?_ _ | with_reducible refine Below.drew ?_ | ((with_reducible refine below_set ?_ ?_ _); rotate_left; (focus (first | (simp; done) | (simp; omega) | omega))) | with_reducible refine below_call ?_ (by assumption))))) hn).mono ?_
      rintro e w1 ⟨rfl, hb1⟩
      obtain ⟨hc1, hf1, hs1⟩ := bcell hb1
      (try (refine cut_ (p := w.heap.size < w1.heap.size) ?_ ?_; (focus (refine hs1 _ ?_; first | assumption | omega | (simp [go_sem]; done) | (simp [go_sem]; omega))); intro hl1a))
      (try (refine cut_ (p := w.heap.size + 1 < w1.heap.size) ?_ ?_; (focus (refine hs1 _ ?_; first | assumption | omega | (simp [go_sem]; done) | (simp [go_sem]; omega))); intro hl1b))
      (try (refine cut_ (p := w.heap.size + 1 + 1 < w1.heap.size) ?_ ?_; (focus (refine hs1 _ ?_; first | assumption | omega | (simp [go_sem]; done) | (simp [go_sem]; omega))); intro hl1c))
      go_wp2_with (go_at_call 44; refine (l00In_any _ _ _ _).mono ?_; rintro e w' ⟨rfl, rfl⟩)
      go_ret
      exact ⟨rfl, by (repeat (first | with_reducible exact Below.refl _ _ | with_reducible refine below_alloc ?_ _ | with_reducible refine below_drewN ?_ _ | with_reducible refine Below.drew ?_ | ((with_reducible refine below_set ?_ ?_ _); rotate_left; (focus (first | (simp; done) | (simp; omega) | omega))) | with_reducible refine below_call ?_ (by assumption)))⟩
theorem rem_i64 (k n : Nat) (hn : 1 ≤ n) (hn' : n ≤ 1048576) (hk : k ≤ 9000000000000000000) : ((k : Int)).tmod (n : Int) = ((k % n : Nat) : Int) := by
  rw [Int.tmod_eq_emod_of_nonneg (Int.natCast_nonneg k)]; exact (Int.natCast_emod k n).symm
set_option maxHeartbeats 1000000 in
theorem gapAt_any (A : Option Addr) (n c B : Nat) (zs : List Int) (x : Int) (w : World) (h : Ints w B A n zs) (hB : B ≤ w.heap.size) (hn1 : 1 ≤ n) (hn : n ≤ 1048576) (hx : 0 ≤ x) (hx' : x ≤ 1000000000) :
    Calls Tryz.prog 40 #[.agg #[.slice A n c], .int .i64 x] w fun e w' => e = .returned (.int .i64 (zs.getD (x.toNat % n) 0)) ∧ Below w.heap.size w w' := by
  obtain ⟨k, rfl⟩ := Int.eq_ofNat_of_zero_le hx
  rw [Int.toNat_natCast]
  have hlt : k % n < n := Nat.mod_lt _ (by omega)
  obtain ⟨b, off, rfl, hbl, hc⟩ := (h.alloc hB (.cells #[.slice A n c] 26)).at_ hlt
  have hm := rem_i64 k n hn1 hn (by omega)
  obtain ⟨j, hj⟩ : ∃ j, k % n = j := ⟨_, rfl⟩
  rw [hj] at hm hc hlt ⊢
  obtain ⟨y, hy⟩ : ∃ y, zs.getD j 0 = y := ⟨_, rfl⟩
  rw [hy] at hc ⊢
  have j0 : (0 : Int) ≤ (j : Int) := Int.natCast_nonneg _
  have j1 : (j : Int) < (n : Int) := by omega
  clear h hy hj
  go_enter Tryz.func40, Tryz.ntmps40
  go_wp2
  go_quiet (fail)
  go_wp2
  go_ret
  exact ⟨rfl, by (repeat (first | with_reducible exact Below.refl _ _ | with_reducible refine below_alloc ?_ _ | with_reducible refine below_drewN ?_ _ | with_reducible refine Below.drew ?_ | ((with_reducible refine below_set ?_ ?_ _); rotate_left; (focus (first | (simp; done) | (simp; omega) | omega))) | with_reducible refine below_call ?_ (by assumption)))⟩
def strikeT (zs : List Int) (n : Nat) (x : Int) : Value :=
  if vWheel zs then if inB x 0 ((n : Int) - 1) then .tuple #[.int .i64 (zs.getD x.toNat 0), .int .i64 (((x.toNat + 1) % n : Nat) : Int), .int .i64 0] else .tuple #[.int .i64 0, .int .i64 0, .int .i64 2] else .tuple #[.int .i64 0, .int .i64 0, .int .i64 1]
theorem strike_bad {zs : List Int} {n : Nat} {x : Int} (h : vWheel zs = false) : strikeT zs n x = .tuple #[.int .i64 0, .int .i64 0, .int .i64 1] := by simp [strikeT, h]
theorem strike_far {zs : List Int} {n : Nat} {x : Int} (h : vWheel zs = true) (h' : inB x 0 ((n : Int) - 1) = false) : strikeT zs n x = .tuple #[.int .i64 0, .int .i64 0, .int .i64 2] := by simp [strikeT, h, h']
theorem strike_ok {zs : List Int} {n : Nat} {x : Int} (h : vWheel zs = true) (h' : inB x 0 ((n : Int) - 1) = true) : strikeT zs n x = .tuple #[.int .i64 (zs.getD x.toNat 0), .int .i64 (((x.toNat + 1) % n : Nat) : Int), .int .i64 0] := by simp [strikeT, h, h']
theorem strikeT_form (zs : List Int) (n : Nat) (x : Int) : ∃ a b d : Int, strikeT zs n x = .tuple #[.int .i64 a, .int .i64 b, .int .i64 d] := by
  unfold strikeT
  split
  · split <;> exact ⟨_, _, _, rfl⟩
  · exact ⟨_, _, _, rfl⟩
end Go.Proofs.YtajcbppndkkbpaaGreatDoor
