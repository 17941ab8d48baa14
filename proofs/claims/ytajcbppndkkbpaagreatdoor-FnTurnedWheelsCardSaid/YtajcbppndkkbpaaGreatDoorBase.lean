/- Contracts of the leaf functions on numbers: within, floors, nearest quotients, greatest common divisors. No conditions but bounds that keep int64 from wrapping. -/
import Derived.Test.YtajcbppndkkbpaaGreatDoorRows
import Derived.WalkKit
import Derived.WalkSpells
import Derived.WalkLawsBesides
import Derived.Deep.QuietTactic
import Derived.BigQuiet
import Derived.LoopTactic
import Derived.Lib.Hide
namespace Go.Proofs.YtajcbppndkkbpaaGreatDoor
open Go.RowKit
set_option linter.unusedVariables false
set_option linter.unusedSimpArgs false

/-- n lies from lo to hi -/
def inB (n lo hi : Int) : Bool := decide (lo ≤ n) && decide (n ≤ hi)
theorem inB_yes {n lo hi : Int} (h : inB n lo hi = true) : lo ≤ n ∧ n ≤ hi := by simpa [inB] using h
theorem inB_no {n lo hi : Int} (h : inB n lo hi = false) : n < lo ∨ hi < n := by
  simp [inB] at h
  omega
theorem inB_mk {n lo hi : Int} (h : lo ≤ n) (h' : n ≤ hi) : inB n lo hi = true := by simp [inB, h, h']
theorem ret_bool {a b : Bool} (h : a = b) : Ending.returned (.bool a) = .returned (.bool b) := by rw [h]
theorem ret_int {k : IntKind} {a b : Int} (h : a = b) : Ending.returned (.int k a) = .returned (.int k b) := by rw [h]

set_option maxHeartbeats 400000 in
theorem within_any (n lo hi : Int) (w : World) :
    Calls Tryz.prog 39 #[.int .i64 n, .int .i64 lo, .int .i64 hi] w fun e w' => e = .returned (.bool (inB n lo hi)) ∧ w = w' := by
  by_cases h1 : lo ≤ n
  · by_cases h2 : n ≤ hi
    · go_enter Tryz.func39, Tryz.ntmps39
      go_wp2
      go_ret
      exact ⟨ret_bool (by simp [inB, h1, h2]), rfl⟩
    · go_enter Tryz.func39, Tryz.ntmps39
      go_wp2
      go_ret
      exact ⟨ret_bool (by simp [inB, h1, h2]), rfl⟩
  · go_enter Tryz.func39, Tryz.ntmps39
    go_wp2
    go_ret
    exact ⟨ret_bool (by simp [inB]; omega), rfl⟩
set_option maxHeartbeats 400000 in
theorem l00In_any (n lo hi : Int) (w : World) :
    Calls Tryz.prog 44 #[.int .i64 n, .int .i64 lo, .int .i64 hi] w fun e w' => e = .returned (.bool (inB n lo hi)) ∧ w = w' := by
  by_cases h1 : lo ≤ n
  · by_cases h2 : n ≤ hi
    · go_enter Tryz.func44, Tryz.ntmps44
      go_wp2
      go_ret
      exact ⟨ret_bool (by simp [inB, h1, h2]), rfl⟩
    · go_enter Tryz.func44, Tryz.ntmps44
      go_wp2
      go_ret
      exact ⟨ret_bool (by simp [inB, h1, h2]), rfl⟩
  · go_enter Tryz.func44, Tryz.ntmps44
    go_wp2
    go_ret
    exact ⟨ret_bool (by simp [inB]; omega), rfl⟩

theorem bcell {W w1 : World} (hb : Below W.heap.size W w1) : (∀ b o, b < W.heap.size → w1.cell? ⟨b, o, none⟩ = W.cell? ⟨b, o, none⟩) ∧ (∀ b o, b < W.heap.size → w1.frozen? ⟨b, o, none⟩ = W.frozen? ⟨b, o, none⟩) ∧ (∀ b, b < W.heap.size → b < w1.heap.size) :=
  ⟨fun b o h => hb.cell (p := ⟨b, o, none⟩) h, fun b o h => hb.frozen (p := ⟨b, o, none⟩) h, fun b h => Nat.lt_of_lt_of_le h hb.size⟩
theorem cut_ {p q : Prop} (h : p) (k : p → q) : q := k h
theorem fro_call {W w1 : World} {p : Addr} (hb : Below W.heap.size W w1) (hl : p.block < W.heap.size) (h : W.frozen? p = false) : w1.frozen? p = false := (hb.frozen hl).trans h
theorem cell_call {W w1 : World} {p : Addr} {v : Value} (hb : Below W.heap.size W w1) (hl : p.block < W.heap.size) (h : W.cell? p = some v) : w1.cell? p = some v := (hb.cell hl).trans h
theorem lt_call {W w1 : World} {b : Nat} (hb : Below W.heap.size W w1) (h : b < W.heap.size) : b < w1.heap.size := Nat.lt_of_lt_of_le h hb.size
theorem below_call' {a w w1 : World} (hb : Below w.heap.size w w1) (h : Below a.heap.size a w) : Below a.heap.size a w1 := h.trans (hb.mono h.size)
theorem below_drewN {B : Nat} {a w : World} (h : Below B a w) (n : Nat) : Below B a (w.drewN n) := ⟨h.os, h.tape, h.output, h.size, h.block⟩
theorem below_call {a w w1 : World} (h : Below a.heap.size a w) (hb : Below w.heap.size w w1) : Below a.heap.size a w1 := h.trans (hb.mono h.size)
theorem below_alloc {a w : World} (h : Below a.heap.size a w) (o : Obj) : Below a.heap.size a (w.alloc o) := h.alloc h.size o
theorem below_set {a w : World} (h : Below a.heap.size a w) {p : Addr} (hp : a.heap.size ≤ p.block) (u : Value) : Below a.heap.size a (w.setCell p u) := h.setCell hp u
/-! ## Quotients -/
theorem tmod_neg_of {n d : Int} (hn : n < 0) (hd : 0 < d) : -d < n.tmod d ∧ n.tmod d ≤ 0 := by
  have h1 := Int.neg_tmod n d
  have h2 := Int.tmod_nonneg (a := -n) d (by omega)
  have h3 := Int.tmod_lt_of_pos (-n) hd
  rw [Int.neg_tmod] at h2 h3
  omega
theorem tdiv_bd {n d : Int} (B : Int) (hd : 0 < d) (h1 : -B ≤ n) (h2 : n ≤ B) : -B ≤ n.tdiv d ∧ n.tdiv d ≤ B := by
  have e := Int.mul_tdiv_add_tmod n d
  rcases Int.lt_or_le n 0 with hn | hn
  · have hm := tmod_neg_of hn hd
    have h3 : -n.tdiv d = (-n).tdiv d := (Int.neg_tdiv _ _).symm
    have h4 : (-n).tdiv d ≤ -n := by
      rw [Int.tdiv_eq_ediv_of_nonneg (by omega)]
      exact Int.ediv_le_self _ (by omega)
    have h5 : 0 ≤ (-n).tdiv d := Int.tdiv_nonneg (by omega) (by omega)
    omega
  · rw [Int.tdiv_eq_ediv_of_nonneg hn]
    have h4 := Int.ediv_le_self d hn
    have h5 := Int.ediv_nonneg hn (by omega : 0 ≤ d)
    omega
theorem floor_of_tdiv {n d : Int} (hn : n < 0) (hd : 0 < d) : n / d = if n.tmod d < 0 then n.tdiv d - 1 else n.tdiv d := by
  have e := Int.mul_tdiv_add_tmod n d
  have hm := tmod_neg_of hn hd
  split
  · exact ((Int.ediv_emod_unique hd (r := n.tmod d + d) (q := n.tdiv d - 1)).2 ⟨by rw [Int.mul_sub]; omega, by omega, by omega⟩).1
  · have h0 : n.tmod d = 0 := by omega
    rw [h0, Int.add_zero] at e
    rw [← Int.mul_ediv_cancel_left (n.tdiv d) (show d ≠ 0 by omega), e]
/-! ## Remainders that are not negative -/
theorem ediv_bd {n d : Int} (B : Int) (hd : 0 < d) (h1 : -B ≤ n) (h2 : n ≤ B) (hB : 0 ≤ B) : -B ≤ n / d ∧ n / d ≤ B := by
  constructor
  · rw [Int.le_ediv_iff_mul_le hd]
    have := Int.mul_le_mul_of_nonneg_left (show 1 ≤ d by omega) hB
    rw [Int.neg_mul]; omega
  · rcases Int.lt_or_le n 0 with h | h
    · have := Int.ediv_neg_of_neg_of_pos h hd; omega
    · have := Int.ediv_le_self d h; omega
theorem emod_form (n d : Int) : n - n / d * d = n % d := by
  have := Int.mul_ediv_add_emod n d
  rw [Int.mul_comm]; omega
theorem edivmul_bd {n d : Int} (B : Int) (hd : 0 < d) (h1 : -B ≤ n) (h2 : n ≤ B) (h3 : d ≤ B) : -(2 * B) ≤ n / d * d ∧ n / d * d ≤ B := by
  have h := emod_form n d
  have := Int.emod_nonneg n (show d ≠ 0 by omega)
  have := Int.emod_lt_of_pos n hd
  omega

/-! ## The nearest integer -/
/-- the integer nearest to n / d, halves up -/
def near (n d : Int) : Int := (2 * n + d) / (2 * d)
theorem near_up {n d : Int} (hd : 0 < d) (h : d - (n - n / d * d) ≤ n - n / d * d) : near n d = n / d + 1 := by
  have hq := Int.emod_lt_of_pos n hd
  have hr := emod_form n d
  unfold near
  refine ((Int.ediv_emod_unique (show 0 < 2 * d by omega) (r := 2 * (n % d) - d) (q := n / d + 1)).2 ⟨?_, by omega, by omega⟩).1
  rw [← hr, Int.mul_add, Int.mul_assoc 2 d, Int.mul_comm d (n / d)]; omega
theorem near_down {n d : Int} (hd : 0 < d) (h : n - n / d * d < d - (n - n / d * d)) : near n d = n / d := by
  have hq := Int.emod_nonneg n (show d ≠ 0 by omega)
  have hr := emod_form n d
  unfold near
  refine ((Int.ediv_emod_unique (show 0 < 2 * d by omega) (r := 2 * (n % d) + d) (q := n / d)).2 ⟨?_, by omega, by omega⟩).1
  rw [← hr, Int.mul_assoc 2 d, Int.mul_comm d (n / d)]; omega
/-! ## Absolute values, greatest common divisors -/
theorem gcd_step (x y : Int) : Int.gcd y (x.tmod y) = Int.gcd x y := by
  have h := Int.mul_tdiv_add_tmod x y
  have h1 : Int.gcd y (x.tmod y) = Int.gcd y (x.tmod y + y * x.tdiv y) := by rw [Int.gcd_add_mul_left_right]
  rw [h1, Int.add_comm, h, Int.gcd_comm]
theorem tmod_abs (x y : Int) (hy : y ≠ 0) : (x.tmod y).natAbs < y.natAbs := by
  rw [Int.natAbs_tmod]
  exact Nat.mod_lt _ (by omega)
end Go.Proofs.YtajcbppndkkbpaaGreatDoor
