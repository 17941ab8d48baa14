/- Contracts of the program's and the reference's functions, several texts in one; what each says, and its conditions, stands at its head. -/
import Derived.Test.YtmbdedkelckedaaGreatDoorRows
import Derived.WalkKit
import Derived.WalkSpells
import Derived.WalkLawsBesides
import Derived.Deep.QuietTactic
import Derived.BigQuiet
import Derived.LoopTactic
import Derived.Lib.Hide
import Derived.OwnWalk
import Derived.Laws.OwnMore
import Derived.Laws.MakeOwn
import Derived.Maps.AppendAt
import Derived.Deep.RegionHeld3
import Derived.Lib.AppendIntMem
import Derived.Lib.ConvBytes
import Derived.Lib.AtoiErrMem
/- Contracts of the leaf functions on numbers: within, floors, nearest quotients, greatest common divisors. No conditions but bounds that keep int64 from wrapping. -/
namespace Go.Proofs.YtmbdedkelckedaaGreatDoor
open Go.RowKit
set_option linter.unusedVariables false
set_option linter.unusedSimpArgs false

/-- n lies from lo to hi -/
def inB (n lo hi : Int) : Bool := decide (lo ≤ n) && decide (n ≤ hi)
theorem inB_yes {n lo hi : Int} (h : inB n lo hi = true) : lo ≤ n ∧ n ≤ hi := by simpa [inB] using h
theorem inB_no {n lo hi : Int} (h : inB n lo hi = false) : n < lo ∨ hi < n := by
  simp [inB] at h
  omega
theorem inB_mk {n lo hi : Int} (h : lo ≤ n) (h' : n ≤ hi) : inB n lo hi = true := by simp [inB, h, h']
theorem ret_bool {a b : Bool} (h : a = b) : Ending.returned (.bool a) = .returned (.bool b) := by rw [h]
theorem ret_int {k : IntKind} {a b : Int} (h : a = b) : Ending.returned (.int k a) = .returned (.int k b) := by rw [h]

set_option maxHeartbeats 400000 in
theorem within_any (n lo hi : Int) (w : World) :
    Calls Tryz.prog 62 #[.int .i64 n, .int .i64 lo, .int .i64 hi] w fun e w' => e = .returned (.bool (inB n lo hi)) ∧ w = w' := by
  by_cases h1 : lo ≤ n
  · by_cases h2 : n ≤ hi
    · go_enter Tryz.func62, Tryz.ntmps62
      go_wp2
      go_ret
      exact ⟨ret_bool (by simp [inB, h1, h2]), rfl⟩
    · go_enter Tryz.func62, Tryz.ntmps62
      go_wp2
      go_ret
      exact ⟨ret_bool (by simp [inB, h1, h2]), rfl⟩
  · go_enter Tryz.func62, Tryz.ntmps62
    go_wp2
    go_ret
    exact ⟨ret_bool (by simp [inB]; omega), rfl⟩
set_option maxHeartbeats 400000 in
theorem l00In_any (n lo hi : Int) (w : World) :
    Calls Tryz.prog 85 #[.int .i64 n, .int .i64 lo, .int .i64 hi] w fun e w' => e = .returned (.bool (inB n lo hi)) ∧ w = w' := by
  by_cases h1 : lo ≤ n
  · by_cases h2 : n ≤ hi
    · go_enter Tryz.func85, Tryz.ntmps85
      go_wp2
      go_ret
      exact ⟨ret_bool (by simp [inB, h1, h2]), rfl⟩
    · go_enter Tryz.func85, Tryz.ntmps85
      go_wp2
      go_ret
      exact ⟨ret_bool (by simp [inB, h1, h2]), rfl⟩
  · go_enter Tryz.func85, Tryz.ntmps85
    go_wp2
    go_ret
    exact ⟨ret_bool (by simp [inB]; omega), rfl⟩

theorem bcell {W w1 : World} (hb : Below W.heap.size W w1) : (∀ b o, b < W.heap.size → w1.cell? ⟨b, o, none⟩ = W.cell? ⟨b, o, none⟩) ∧ (∀ b o, b < W.heap.size → w1.frozen? ⟨b, o, none⟩ = W.frozen? ⟨b, o, none⟩) ∧ (∀ b, b < W.heap.size → b < w1.heap.size) :=
  ⟨fun b o h => hb.cell (p := ⟨b, o, none⟩) h, fun b o h => hb.frozen (p := ⟨b, o, none⟩) h, fun b h => Nat.lt_of_lt_of_le h hb.size⟩
theorem cut_ {p q : Prop} (h : p) (k : p → q) : q := k h
theorem fro_call {W w1 : World} {p : Addr} (hb : Below W.heap.size W w1) (hl : p.block < W.heap.size) (h : W.frozen? p = false) : w1.frozen? p = false := (hb.frozen hl).trans h
theorem cell_call {W w1 : World} {p : Addr} {v : Value} (hb : Below W.heap.size W w1) (hl : p.block < W.heap.size) (h : W.cell? p = some v) : w1.cell? p = some v := (hb.cell hl).trans h
theorem lt_call {W w1 : World} {b : Nat} (hb : Below W.heap.size W w1) (h : b < W.heap.size) : b < w1.heap.size := Nat.lt_of_lt_of_le h hb.size
theorem below_call' {a w w1 : World} (hb : Below w.heap.size w w1) (h : Below a.heap.size a w) : Below a.heap.size a w1 := h.trans (hb.mono h.size)
theorem below_drewN {B : Nat} {a w : World} (h : Below B a w) (n : Nat) : Below B a (w.drewN n) := ⟨h.os, h.tape, h.output, h.size, h.block⟩
theorem below_call {a w w1 : World} (h : Below a.heap.size a w) (hb : Below w.heap.size w w1) : Below a.heap.size a w1 := h.trans (hb.mono h.size)
theorem below_alloc {a w : World} (h : Below a.heap.size a w) (o : Obj) : Below a.heap.size a (w.alloc o) := h.alloc h.size o
theorem below_set {a w : World} (h : Below a.heap.size a w) {p : Addr} (hp : a.heap.size ≤ p.block) (u : Value) : Below a.heap.size a (w.setCell p u) := h.setCell hp u
/-! ## Quotients -/
theorem tmod_neg_of {n d : Int} (hn : n < 0) (hd : 0 < d) : -d < n.tmod d ∧ n.tmod d ≤ 0 := by
  have h1 := Int.neg_tmod n d
  have h2 := Int.tmod_nonneg (a := -n) d (by omega)
  have h3 := Int.tmod_lt_of_pos (-n) hd
  rw [Int.neg_tmod] at h2 h3
  omega
theorem tdiv_bd {n d : Int} (B : Int) (hd : 0 < d) (h1 : -B ≤ n) (h2 : n ≤ B) : -B ≤ n.tdiv d ∧ n.tdiv d ≤ B := by
  have e := Int.mul_tdiv_add_tmod n d
  rcases Int.lt_or_le n 0 with hn | hn
  · have hm := tmod_neg_of hn hd
    have h3 : -n.tdiv d = (-n).tdiv d := (Int.neg_tdiv _ _).symm
    have h4 : (-n).tdiv d ≤ -n := by
      rw [Int.tdiv_eq_ediv_of_nonneg (by omega)]
      exact Int.ediv_le_self _ (by omega)
    have h5 : 0 ≤ (-n).tdiv d := Int.tdiv_nonneg (by omega) (by omega)
    omega
  · rw [Int.tdiv_eq_ediv_of_nonneg hn]
    have h4 := Int.ediv_le_self d hn
    have h5 := Int.ediv_nonneg hn (by omega : 0 ≤ d)
    omega
theorem floor_of_tdiv {n d : Int} (hn : n < 0) (hd : 0 < d) : n / d = if n.tmod d < 0 then n.tdiv d - 1 else n.tdiv d := by
  have e := Int.mul_tdiv_add_tmod n d
  have hm := tmod_neg_of hn hd
  split
  · exact ((Int.ediv_emod_unique hd (r := n.tmod d + d) (q := n.tdiv d - 1)).2 ⟨by rw [Int.mul_sub]; omega, by omega, by omega⟩).1
  · have h0 : n.tmod d = 0 := by omega
    rw [h0, Int.add_zero] at e
    rw [← Int.mul_ediv_cancel_left (n.tdiv d) (show d ≠ 0 by omega), e]
/-! ## Remainders that are not negative -/
theorem ediv_bd {n d : Int} (B : Int) (hd : 0 < d) (h1 : -B ≤ n) (h2 : n ≤ B) (hB : 0 ≤ B) : -B ≤ n / d ∧ n / d ≤ B := by
  constructor
  · rw [Int.le_ediv_iff_mul_le hd]
    have := Int.mul_le_mul_of_nonneg_left (show 1 ≤ d by omega) hB
    rw [Int.neg_mul]; omega
  · rcases Int.lt_or_le n 0 with h | h
    · have := Int.ediv_neg_of_neg_of_pos h hd; omega
    · have := Int.ediv_le_self d h; omega
theorem emod_form (n d : Int) : n - n / d * d = n % d := by
  have := Int.mul_ediv_add_emod n d
  rw [Int.mul_comm]; omega
theorem edivmul_bd {n d : Int} (B : Int) (hd : 0 < d) (h1 : -B ≤ n) (h2 : n ≤ B) (h3 : d ≤ B) : -(2 * B) ≤ n / d * d ∧ n / d * d ≤ B := by
  have h := emod_form n d
  have := Int.emod_nonneg n (show d ≠ 0 by omega)
  have := Int.emod_lt_of_pos n hd
  omega

/-! ## The nearest integer -/
/-- the integer nearest to n / d, halves up -/
def near (n d : Int) : Int := (2 * n + d) / (2 * d)
theorem near_up {n d : Int} (hd : 0 < d) (h : d - (n - n / d * d) ≤ n - n / d * d) : near n d = n / d + 1 := by
  have hq := Int.emod_lt_of_pos n hd
  have hr := emod_form n d
  unfold near
  refine ((Int.ediv_emod_unique (show 0 < 2 * d by omega) (r := 2 * (n % d) - d) (q := n / d + 1)).2 ⟨?_, by omega, by omega⟩).1
  rw [← hr, Int.mul_add, Int.mul_assoc 2 d, Int.mul_comm d (n / d)]; omega
theorem near_down {n d : Int} (hd : 0 < d) (h : n - n / d * d < d - (n - n / d * d)) : near n d = n / d := by
  have hq := Int.emod_nonneg n (show d ≠ 0 by omega)
  have hr := emod_form n d
  unfold near
  refine ((Int.ediv_emod_unique (show 0 < 2 * d by omega) (r := 2 * (n % d) + d) (q := n / d)).2 ⟨?_, by omega, by omega⟩).1
  rw [← hr, Int.mul_assoc 2 d, Int.mul_comm d (n / d)]; omega
/-! ## Absolute values, greatest common divisors -/
theorem gcd_step (x y : Int) : Int.gcd y (x.tmod y) = Int.gcd x y := by
  have h := Int.mul_tdiv_add_tmod x y
  have h1 : Int.gcd y (x.tmod y) = Int.gcd y (x.tmod y + y * x.tdiv y) := by rw [Int.gcd_add_mul_left_right]
  rw [h1, Int.add_comm, h, Int.gcd_comm]
theorem tmod_abs (x y : Int) (hy : y ≠ 0) : (x.tmod y).natAbs < y.natAbs := by
  rw [Int.natAbs_tmod]
  exact Nat.mod_lt _ (by omega)
set_option maxHeartbeats 400000 in
theorem gcd_any (a b : Int) (w : World) (h1 : a.natAbs ≤ 4000000000000000000) (h2 : b.natAbs ≤ 4000000000000000000) :
    Calls Tryz.prog 38 #[.int .i64 a, .int .i64 b] w fun e w' => e = .returned (.int .i64 (Int.gcd a b : Int)) ∧ ∃ k, w' = w.drewN k := by
  go_enter Tryz.func38, Tryz.ntmps38
  go_wp2
  go_loopw [0, 1] (fun s t wr => ∃ x y : Int, ∃ k : Nat, s = .int .i64 x ∧ t = .int .i64 y ∧ Hid (Int.gcd x y = Int.gcd a b) ∧ x.natAbs ≤ 4000000000000000000 ∧ y.natAbs ≤ 4000000000000000000 ∧ wr = w.drewN k) (fun _ t _ => (intOf t).natAbs)
  case atStart => exact ⟨a, b, 0, rfl, rfl, Lib.hid rfl, h1, h2, rfl⟩
  case round =>
    obtain ⟨x, y, k, rfl, rfl, hg, hx, hy, rfl⟩ := hrel
    by_cases hz : y = 0
    · subst hz
      have hg' : (x.natAbs : Int) = (Int.gcd a b : Int) := by have := hg.out; simp at this; omega
      have HG := Lib.hid hg'
      clear hg'
      go_wp2
      all_goals
        go_ret
        exact ⟨ret_int (by rw [← HG.out]; omega), k, rfl⟩
    · have hs := Lib.hid (gcd_step x y)
      have ha := tmod_abs x y hz
      go_wp2
      go_quiet (fail)
      go_wp2
      go_roundw
      case rel => exact ⟨y, x.tmod y, _, rfl, rfl, Lib.hid (hs.out.trans hg.out), hy, by omega, World.drewN_drewN _ _ _⟩
      case measure => simpa [intOf] using ha
set_option maxHeartbeats 400000 in
theorem l02Gcd_any (a b : Int) (w : World) (ha : 0 ≤ a) (hb : 0 ≤ b) (h1 : a ≤ 4000000000000000000) (h2 : b ≤ 4000000000000000000) :
    Calls Tryz.prog 111 #[.int .i64 a, .int .i64 b] w fun e w' => e = .returned (.int .i64 (Int.gcd a b : Int)) ∧ w = w' := by
  go_enter Tryz.func111, Tryz.ntmps111
  go_wp2
  go_loop [0, 1, 5] (fun s t u => ∃ x y : Int, s = .int .i64 x ∧ t = .int .i64 y ∧ Hid (Int.gcd x y = Int.gcd a b) ∧ 0 ≤ x ∧ 0 ≤ y ∧ x ≤ 4000000000000000000 ∧ y ≤ 4000000000000000000) (fun _ t _ => (intOf t).toNat)
  case atStart => exact ⟨a, b, rfl, rfl, Lib.hid rfl, ha, hb, h1, h2⟩
  case round =>
    obtain ⟨x, y, rfl, rfl, hg, hx, hy, hx', hy'⟩ := hrel
    by_cases hz : y = 0
    · subst hz
      have hg' : x = (Int.gcd a b : Int) := by have := hg.out; simp at this; omega
      have HG := Lib.hid hg'
      clear hg'
      go_wp2
      go_ret
      exact ⟨ret_int HG.out, rfl⟩
    · have hs := gcd_step x y
      rw [Int.tmod_eq_emod_of_nonneg hx] at hs
      have HS := Lib.hid hs
      clear hs
      have hm := Int.emod_nonneg x hz
      have hl := Int.emod_lt_of_pos x (show 0 < y by omega)
      go_wp2
      go_round
      case rel => exact ⟨y, x % y, rfl, rfl, Lib.hid (HS.out.trans hg.out), hy, hm, hy', by omega⟩
      case measure => simp [intOf]; omega
end Go.Proofs.YtmbdedkelckedaaGreatDoor

/- Words for slices of int64 that are read or owned, and the contracts of the laws' own helpers on them. No conditions but that a slice has at most 2^20 elements where it is copied. -/
namespace Go.Proofs.YtmbdedkelckedaaGreatDoor
open Go.RowKit
set_option linter.unusedVariables false
set_option linter.unusedSimpArgs false

/-- the slice at A of n elements reads as zs; its cells lie below block B -/
def Ints (w : World) (B : Nat) (A : Option Addr) (n : Nat) (zs : List Int) : Prop :=
  zs.length = n ∧ (0 < n → ∃ b off, A = some ⟨b, off, none⟩ ∧ b < B ∧ ∀ j, j < n → w.cell? ⟨b, off + j, none⟩ = some (.int .i64 (zs.getD j 0)))
/-- the slice A of n elements is the call's own: it lies in a block from 'base' on, may be written, and reads as zs -/
def Own (w : World) (base : Nat) (A : Option Addr) (n c : Nat) (zs : List Int) : Prop := w.ownsRow base 2 1 (.slice A n c) n (zs.map (Value.int .i64))

section
variable {w w' : World} {B B' n c base : Nat} {A : Option Addr} {zs : List Int}
theorem Ints.len (h : Ints w B A n zs) : zs.length = n := h.1
theorem Ints.at_ (h : Ints w B A n zs) {k : Nat} (hk : k < n) : ∃ b off, A = some ⟨b, off, none⟩ ∧ b < B ∧ w.cell? ⟨b, off + k, none⟩ = some (.int .i64 (zs.getD k 0)) := by
  obtain ⟨b, off, e, hb, hc⟩ := h.2 (by omega)
  exact ⟨b, off, e, hb, hc k hk⟩
theorem Ints.keep (h : Ints w B A n zs) (hk : ∀ p : Addr, p.block < B → w'.cell? p = w.cell? p) : Ints w' B A n zs :=
  ⟨h.1, fun hn => by
    obtain ⟨b, off, e, hb, hc⟩ := h.2 hn
    exact ⟨b, off, e, hb, fun j hj => (hk _ hb).trans (hc j hj)⟩⟩
theorem Ints.more (h : Ints w B A n zs) (hB : B ≤ B') : Ints w B' A n zs :=
  ⟨h.1, fun hn => by
    obtain ⟨b, off, e, hb, hc⟩ := h.2 hn
    exact ⟨b, off, e, by omega, hc⟩⟩
theorem Ints.below (h : Ints w B A n zs) (hb : Below B w w') : Ints w' B A n zs := h.keep fun _ hp => hb.cell hp
theorem Ints.call (h : Ints w B A n zs) (hB : B ≤ w.heap.size) (hb : Below w.heap.size w w') : Ints w' B A n zs := h.keep fun _ hp => hb.cell (by omega)
theorem Ints.alloc (h : Ints w B A n zs) (hB : B ≤ w.heap.size) (o : Obj) : Ints (w.alloc o) B A n zs := h.keep fun p hp => World.cell?_alloc_lt w o p (by omega)
theorem Ints.setCell (h : Ints w B A n zs) {p : Addr} (hB : B ≤ p.block) (u : Value) : Ints (w.setCell p u) B A n zs :=
  h.keep fun q hq => World.cell?_setCell_other w p q u (fun e => by subst e; omega)
theorem Ints.drewN (h : Ints w B A n zs) (k : Nat) : Ints (w.drewN k) B A n zs := h
theorem Ints.drew (h : Ints w B A n zs) : Ints w.drew B A n zs := h
theorem Own.len (h : Own w base A n c zs) : zs.length = n := by simpa using h.1
theorem Own.form (h : Own w base A n c zs) : (A = none ∧ n = 0 ∧ c = 0) ∨ ∃ g, A = some ⟨g, 0, none⟩ ∧ base ≤ g ∧ g < w.heap.size := by
  rcases h.2 with ⟨e, h0⟩ | ⟨g, cap, cur, e, hb, hh, _⟩
  · injection e with e1 e2 e3; exact .inl ⟨e1, h0, e3⟩
  · injection e with e1 e2 e3; exact .inr ⟨g, e1, hb, (Array.getElem?_eq_some_iff.1 hh).1⟩
theorem Own.ints (h : Own w base A n c zs) (hB : w.heap.size ≤ B) : Ints w B A n zs := by
  refine ⟨h.len, fun hn => ?_⟩
  rcases h.form with ⟨_, h0, _⟩ | ⟨g, rfl, _, hlt⟩
  · omega
  · refine ⟨g, 0, rfl, by omega, fun j hj => ?_⟩
    have h2 : w.ownsRow base 2 1 (.slice (some ⟨g, 0, none⟩) n c) n (zs.map (Value.int .i64)) := h
    rw [Nat.zero_add, World.ownsRow.cellAt h2 j (by omega)]
    have hl := h.len
    simp [List.getElem?_map, List.getElem?_eq_getElem (show j < zs.length by omega)]
theorem Own.block (h : Own w base A n c zs) (hk : ∀ b, base ≤ b → b < w.heap.size → w'.heap[b]? = w.heap[b]?) : Own w' base A n c zs := by
  refine ⟨h.1, ?_⟩
  rcases h.2 with h0 | ⟨g, cap, cur, e, hb, hh, hr⟩
  · exact .inl h0
  · exact .inr ⟨g, cap, cur, e, hb, by rw [hk g hb (Array.getElem?_eq_some_iff.1 hh).1]; exact hh, hr⟩
theorem Own.call (h : Own w base A n c zs) (hb : Below w.heap.size w w') : Own w' base A n c zs := h.block fun b _ hl => hb.block b hl
theorem Own.alloc (h : Own w base A n c zs) (o : Obj) : Own (w.alloc o) base A n c zs := World.ownsRow.alloc h o
theorem Own.drewN (h : Own w base A n c zs) (k : Nat) : Own (w.drewN k) base A n c zs := h
theorem Own.drew (h : Own w base A n c zs) : Own w.drew base A n c zs := h
theorem Own.low (h : Own w base A n c zs) {b0 : Nat} (hb : b0 ≤ base) : Own w b0 A n c zs := by
  refine ⟨h.1, ?_⟩
  rcases h.2 with h0 | ⟨g, cap, cur, e, hb', hr⟩
  · exact .inl h0
  · exact .inr ⟨g, cap, cur, e, by omega, hr⟩
/-- a store into a block that is not the row's -/
theorem Own.far (h : Own w base A n c zs) {p : Addr} (hp : p.block < base) (u : Value) : Own (w.setCell p u) base A n c zs := h.block fun b hb _ => Below.heap_setCell w p u b (by omega)
theorem Own.nil_ : Own w base none 0 0 [] := World.ownsRow_nil w base _ 1
end

theorem info_int64 : (Tryz.prog.info? 2).map (fun i => (i.zero, i.size, i.bytes)) = some (some (.int .i64 0), 1, 8) := by kernel_rfl

theorem getD_of {zs : List Int} {k : Nat} (h : k < zs.length) : zs.getD k 0 = zs[k] := by simp [List.getD, List.getElem?_eq_getElem h]
theorem list_eq_of {zs ys : List Int} (hl : zs.length = ys.length) (h : ∀ j, j < zs.length → zs.getD j 0 = ys.getD j 0) : zs = ys := by
  apply List.ext_getElem hl
  intro j h1 h2
  have := h j h1
  rwa [getD_of h1, getD_of h2] at this
/-- the numbers that are written into a slice: k, k + 1 .. -/
def marks (k : Int) (n : Nat) : List Int := (List.range n).map (fun j : Nat => k + (j : Int))
theorem marks_len (k : Int) (n : Nat) : (marks k n).length = n := by simp [marks]
theorem marks_getD {k : Int} {n j : Nat} (h : j < n) : (marks k n).getD j 0 = k + j := by
  rw [getD_of (by rw [marks_len]; exact h)]; simp [marks]
end Go.Proofs.YtmbdedkelckedaaGreatDoor

/- Contracts of the laws' conversions of perpetual works. No conditions but that a cam that is copied has at most 2^20 steps. -/
namespace Go.Proofs.YtmbdedkelckedaaGreatDoor
open Go.RowKit
set_option linter.unusedVariables false
set_option linter.unusedSimpArgs false

end Go.Proofs.YtmbdedkelckedaaGreatDoor

/- Rows of structs of three cells each: what reads them, in one word; months and rules of leap years. No conditions. -/
namespace Go.Proofs.YtmbdedkelckedaaGreatDoor
open Go.RowKit
set_option linter.unusedVariables false
set_option linter.unusedSimpArgs false
/-- an element: its three cells -/
abbrev T3 := Value × Value × Value
def t0 : T3 := (.int .i64 0, .int .i64 0, .int .i64 0)
/-- a row in block b from off on: three cells for each element -/
def Tri (w : World) (B : Nat) (A : Option Addr) (n : Nat) (es : List T3) : Prop := es.length = n ∧ (0 < n → ∃ b off, A = some ⟨b, off, none⟩ ∧ b < B ∧ ∀ j, j < n → w.cell? ⟨b, off + j * 3, none⟩ = some (es.getD j t0).1 ∧ w.cell? ⟨b, off + j * 3 + 1, none⟩ = some (es.getD j t0).2.1 ∧ w.cell? ⟨b, off + j * 3 + 2, none⟩ = some (es.getD j t0).2.2)
section
variable {w w' : World} {B B' n : Nat} {A : Option Addr} {es : List T3}
theorem Tri.len (h : Tri w B A n es) : es.length = n := h.1
theorem Tri.at_ (h : Tri w B A n es) {k : Nat} (hk : k < n) : ∃ b off, A = some ⟨b, off, none⟩ ∧ b < B ∧ w.cell? ⟨b, off + k * 3, none⟩ = some (es.getD k t0).1 ∧ w.cell? ⟨b, off + k * 3 + 1, none⟩ = some (es.getD k t0).2.1 ∧ w.cell? ⟨b, off + k * 3 + 2, none⟩ = some (es.getD k t0).2.2 := by
  obtain ⟨b, off, e, hb, hc⟩ := h.2 (by omega)
  exact ⟨b, off, e, hb, hc k hk⟩
theorem Tri.keep (h : Tri w B A n es) (hk : ∀ p : Addr, p.block < B → w'.cell? p = w.cell? p) : Tri w' B A n es := by
  refine ⟨h.1, fun h0 => ?_⟩
  obtain ⟨b, off, e, hb, hc⟩ := h.2 h0
  refine ⟨b, off, e, hb, fun j hj => ?_⟩
  obtain ⟨c1, c2, c3⟩ := hc j hj
  exact ⟨(hk _ hb).trans c1, (hk _ hb).trans c2, (hk _ hb).trans c3⟩
theorem Tri.more (h : Tri w B A n es) (hB : B ≤ B') : Tri w B' A n es := by
  refine ⟨h.1, fun h0 => ?_⟩
  obtain ⟨b, off, e, hb, hc⟩ := h.2 h0
  exact ⟨b, off, e, by omega, hc⟩
theorem Tri.below (h : Tri w B A n es) (hb : Below B w w') : Tri w' B A n es := h.keep fun _ hp => hb.cell hp
theorem Tri.call (h : Tri w B A n es) (hB : B ≤ w.heap.size) (hb : Below w.heap.size w w') : Tri w' B A n es := h.keep fun _ hp => hb.cell (by omega)
theorem Tri.alloc (h : Tri w B A n es) (hB : B ≤ w.heap.size) (o : Obj) : Tri (w.alloc o) B A n es := h.keep fun p hp => World.cell?_alloc_lt w o p (by omega)
theorem Tri.setCell (h : Tri w B A n es) {p : Addr} (hB : B ≤ p.block) (u : Value) : Tri (w.setCell p u) B A n es := by
  have hb : Below B w (w.setCell p u) := (Below.refl B w).setCell hB u
  exact h.below hb
theorem Tri.nil_ : Tri w B A 0 [] := ⟨rfl, fun h => absurd h (by omega)⟩
end
/-- the cells of a row -/
def flat (es : List T3) : List Value := es.flatMap fun e => [e.1, e.2.1, e.2.2]
theorem flat_cons (e : T3) (es : List T3) : flat (e :: es) = e.1 :: e.2.1 :: e.2.2 :: flat es := rfl
theorem flat_len : ∀ es : List T3, (flat es).length = 3 * es.length
  | [] => rfl
  | e :: es => by rw [flat_cons]; simp only [List.length_cons]; rw [flat_len es]; omega
theorem flat_at : ∀ (es : List T3) (k : Nat), k < es.length → (flat es)[k * 3]? = some (es.getD k t0).1 ∧ (flat es)[k * 3 + 1]? = some (es.getD k t0).2.1 ∧ (flat es)[k * 3 + 2]? = some (es.getD k t0).2.2
  | [], k, h => by simp at h
  | e :: es, 0, _ => by rw [flat_cons]; exact ⟨rfl, rfl, rfl⟩
  | e :: es, k + 1, h => by
    have ih := flat_at es k (by simpa using h)
    have e1 : (k + 1) * 3 = k * 3 + 3 := by omega
    rw [flat_cons, e1]
    exact ih
theorem flat_set : ∀ (es : List T3) (k : Nat) (x : T3), k < es.length → (((flat es).set (k * 3) x.1).set (k * 3 + 1) x.2.1).set (k * 3 + 2) x.2.2 = flat (es.set k x)
  | [], k, x, h => by simp at h
  | e :: es, 0, x, _ => rfl
  | e :: es, k + 1, x, h => by
    have ih := flat_set es k x (by simpa using h)
    show (((e.1 :: e.2.1 :: e.2.2 :: flat es).set ((k + 1) * 3) x.1).set ((k + 1) * 3 + 1) x.2.1).set ((k + 1) * 3 + 2) x.2.2 = e.1 :: e.2.1 :: e.2.2 :: flat (es.set k x)
    rw [show (k + 1) * 3 = k * 3 + 3 by omega, ← ih]
    rfl
/-- the first k elements of es, zeros behind them -/
def part3 (z : T3) (es : List T3) (k : Nat) : List T3 := es.take k ++ List.replicate (es.length - k) z
theorem part3_len (z : T3) (es : List T3) (k : Nat) (hk : k ≤ es.length) : (part3 z es k).length = es.length := by simp [part3]; omega
theorem part3_full (z : T3) (es : List T3) : part3 z es es.length = es := by simp [part3]
theorem part3_none (z : T3) (es : List T3) : part3 z es 0 = List.replicate es.length z := by simp [part3]
theorem part3_set (z : T3) (es : List T3) (k : Nat) (hk : k < es.length) : (part3 z es k).set k (es.getD k t0) = part3 z es (k + 1) := by
  have hl : (es.take k).length = k := by simp; omega
  unfold part3
  rw [List.set_append_right _ _ (by omega), hl, Nat.sub_self]
  have e1 : es.length - k = (es.length - (k + 1)) + 1 := by omega
  rw [e1, List.replicate_succ, List.set_cons_zero, List.take_succ_eq_append_getElem hk, List.append_assoc]
  congr 2
  rw [List.getD_eq_getElem?_getD, List.getElem?_eq_getElem hk]; rfl
/-- a row of the call's own -/
def Own3 (w : World) (t : TypeId) (base : Nat) (A : Option Addr) (n c : Nat) (es : List T3) : Prop := w.ownsRow base t 3 (.slice A n c) n (flat es)
section
variable {w w' : World} {base B n c : Nat} {A : Option Addr} {es : List T3} {t : TypeId}
theorem Own3.len (h : Own3 w t base A n c es) : es.length = n := by have := h.1; rw [flat_len] at this; omega
theorem Own3.tri (h : Own3 w t base A n c es) (hB : w.heap.size ≤ B) : Tri w B A n es := by
  have hl := h.len
  refine ⟨hl, fun h0 => ?_⟩
  rcases h.2 with ⟨_, h1⟩ | ⟨g, cap, cur, e, hb, hg, _⟩
  · omega
  · injection e with e1 e2 e3
    subst e1
    have hgl : g < w.heap.size := (Array.getElem?_eq_some_iff.1 hg).1
    have hx : ∀ j, j < n * 3 → w.cell? ⟨g, j, none⟩ = (flat es)[j]? := fun j hj => World.ownsRow.cellAt h j hj
    refine ⟨g, 0, rfl, by omega, fun j hj => ?_⟩
    obtain ⟨f1, f2, f3⟩ := flat_at es j (by omega)
    rw [Nat.zero_add]
    exact ⟨(hx _ (by omega)).trans f1, (hx _ (by omega)).trans f2, (hx _ (by omega)).trans f3⟩
theorem Own3.form (h : Own3 w t base (some ⟨base, 0, none⟩) n c es) (h0 : 0 < n) : base < w.heap.size := by
  rcases h.2 with ⟨_, h1⟩ | ⟨g, cap, cur, e, hb, hg, _⟩
  · omega
  · injection e with e1
    injection e1 with e1
    injection e1 with e1
    subst e1
    exact (Array.getElem?_eq_some_iff.1 hg).1
theorem Own3.store {g k : Nat} {x : T3} (h : Own3 w t base (some ⟨g, 0, none⟩) n c es) (hk : k < es.length) : Own3 (((w.setCell ⟨g, k * 3, none⟩ x.1).setCell ⟨g, k * 3 + 1, none⟩ x.2.1).setCell ⟨g, k * 3 + 2, none⟩ x.2.2) t base (some ⟨g, 0, none⟩) n c (es.set k x) := by
  unfold Own3
  rw [← flat_set es k x hk]
  exact (World.ownsRow.stored (World.ownsRow.stored (World.ownsRow.stored h (k * 3) x.1).1 (k * 3 + 1) x.2.1).1 (k * 3 + 2) x.2.2).1
theorem own_call {v : Value} {xs : List Value} {size : Nat} (h : w.ownsRow base t size v n xs) (hb : Below w.heap.size w w') : w'.ownsRow base t size v n xs := by
  refine ⟨h.1, ?_⟩
  rcases h.2 with h0 | ⟨g2, cap, cur, e2, hb2, hg, hr⟩
  · exact .inl h0
  · exact .inr ⟨g2, cap, cur, e2, hb2, by rw [hb.block g2 (Array.getElem?_eq_some_iff.1 hg).1]; exact hg, hr⟩
end
/-- a month, a rule -/
structure Mth where
  nm : ByteArray
  dy : Int
  lp : Int
structure Rul where
  ev : Int
  rs : Int
  lp : Bool
def mT (m : Mth) : T3 := (.string m.nm, .int .i64 m.dy, .int .i64 m.lp)
def rT (r : Rul) : T3 := (.int .i64 r.ev, .int .i64 r.rs, .bool r.lp)
def m0 : Mth := ⟨⟨#[]⟩, 0, 0⟩
def r0 : Rul := ⟨0, 0, false⟩
theorem mT_at (ms : List Mth) {k : Nat} (hk : k < ms.length) : (ms.map mT).getD k t0 = mT (ms.getD k m0) := by
  simp [List.getD_eq_getElem?_getD, List.getElem?_map, List.getElem?_eq_getElem hk]
theorem rT_at (rs : List Rul) {k : Nat} (hk : k < rs.length) : (rs.map rT).getD k t0 = rT (rs.getD k r0) := by
  simp [List.getD_eq_getElem?_getD, List.getElem?_map, List.getElem?_eq_getElem hk]
def Months (w : World) (B : Nat) (A : Option Addr) (n : Nat) (ms : List Mth) : Prop := Tri w B A n (ms.map mT)
def Rules (w : World) (B : Nat) (A : Option Addr) (n : Nat) (rs : List Rul) : Prop := Tri w B A n (rs.map rT)
theorem Months.len {w : World} {B n : Nat} {A : Option Addr} {ms : List Mth} (h : Months w B A n ms) : ms.length = n := by simpa using Tri.len h
theorem Rules.len {w : World} {B n : Nat} {A : Option Addr} {rs : List Rul} (h : Rules w B A n rs) : rs.length = n := by simpa using Tri.len h
theorem Months.at_ {w : World} {B n k : Nat} {A : Option Addr} {ms : List Mth} (h : Months w B A n ms) (hk : k < n) : ∃ b off, A = some ⟨b, off, none⟩ ∧ b < B ∧ w.cell? ⟨b, off + k * 3, none⟩ = some (.string (ms.getD k m0).nm) ∧ w.cell? ⟨b, off + k * 3 + 1, none⟩ = some (.int .i64 (ms.getD k m0).dy) ∧ w.cell? ⟨b, off + k * 3 + 2, none⟩ = some (.int .i64 (ms.getD k m0).lp) := by
  have := Tri.at_ h hk
  rwa [mT_at ms (by rw [h.len]; exact hk)] at this
theorem Rules.at_ {w : World} {B n k : Nat} {A : Option Addr} {rs : List Rul} (h : Rules w B A n rs) (hk : k < n) : ∃ b off, A = some ⟨b, off, none⟩ ∧ b < B ∧ w.cell? ⟨b, off + k * 3, none⟩ = some (.int .i64 (rs.getD k r0).ev) ∧ w.cell? ⟨b, off + k * 3 + 1, none⟩ = some (.int .i64 (rs.getD k r0).rs) ∧ w.cell? ⟨b, off + k * 3 + 2, none⟩ = some (.bool (rs.getD k r0).lp) := by
  have := Tri.at_ h hk
  rwa [rT_at rs (by rw [h.len]; exact hk)] at this
end Go.Proofs.YtmbdedkelckedaaGreatDoor

/- Contracts of the sizes, copies and comparisons of months, rules and calendars. No conditions but that a calendar that is copied has at most 2^20 months and rules. -/
namespace Go.Proofs.YtmbdedkelckedaaGreatDoor
open Go.RowKit
set_option linter.unusedVariables false
set_option linter.unusedSimpArgs false
theorem made3 (a b c : Value) (n : Nat) : (madeCells #[a, b, c] (n * 3)).toList = flat (List.replicate n (a, b, c)) := by
  apply List.ext_getElem?
  intro j
  by_cases hj : j < n * 3
  · have hq : j / 3 < (List.replicate n (a, b, c)).length := by simp; omega
    obtain ⟨f1, f2, f3⟩ := flat_at (List.replicate n (a, b, c)) (j / 3) hq
    have hd : (List.replicate n (a, b, c)).getD (j / 3) t0 = (a, b, c) := by
      rw [List.getD_eq_getElem?_getD, List.getElem?_replicate, if_pos (by simpa using hq)]; rfl
    rw [hd] at f1 f2 f3
    have hm : (madeCells #[a, b, c] (n * 3)).toList[j]? = some (#[a, b, c][j % 3]!) := by simp [madeCells, hj]
    rw [hm]
    have h3 : j % 3 < 3 := Nat.mod_lt _ (by omega)
    rcases (show j % 3 = 0 ∨ j % 3 = 1 ∨ j % 3 = 2 by omega) with h | h | h
    · rw [show j / 3 * 3 = j by omega] at f1
      rw [h, f1]; rfl
    · rw [show j / 3 * 3 + 1 = j by omega] at f2
      rw [h, f2]; rfl
    · rw [show j / 3 * 3 + 2 = j by omega] at f3
      rw [h, f3]; rfl
  · rw [List.getElem?_eq_none (by simp [madeCells]; omega), List.getElem?_eq_none (by rw [flat_len]; simp; omega)]
end Go.Proofs.YtmbdedkelckedaaGreatDoor

/- Contracts of the sizes, copies and comparisons of calendars. No conditions but that a calendar that is copied has at most 2^20 months and rules. -/
namespace Go.Proofs.YtmbdedkelckedaaGreatDoor
open Go.RowKit
set_option linter.unusedVariables false
set_option linter.unusedSimpArgs false
end Go.Proofs.YtmbdedkelckedaaGreatDoor

/- Contract of the copy of a calendar. No conditions but that the calendar has at most 2^20 months and rules. -/
namespace Go.Proofs.YtmbdedkelckedaaGreatDoor
open Go.RowKit
set_option linter.unusedVariables false
set_option linter.unusedSimpArgs false
/-- two rows of the call's own, one behind the other: months in block g, rules in block g' -/
structure Own2 (w : World) (lo hi g g' n n' : Nat) (ms : List T3) (rs : List T3) : Prop where
  lo_ : lo ≤ g
  mid : g < g'
  hi_ : g' < hi
  sz : hi ≤ w.heap.size
  m : Own3 w 72 lo (some ⟨g, 0, none⟩) n n ms
  r : Own3 w 99 (g + 1) (some ⟨g', 0, none⟩) n' n' rs
theorem Own3.block {w w' : World} {t : TypeId} {lo g n c : Nat} {es : List T3} (h : Own3 w t lo (some ⟨g, 0, none⟩) n c es) (hk : w'.heap[g]? = w.heap[g]?) : Own3 w' t lo (some ⟨g, 0, none⟩) n c es := by
  refine ⟨h.1, ?_⟩
  rcases h.2 with h0 | ⟨g2, cap, cur, e2, hb2, hg, hr⟩
  · exact .inl h0
  · refine .inr ⟨g2, cap, cur, e2, hb2, ?_, hr⟩
    injection e2 with e3
    injection e3 with e3
    injection e3 with e3
    subst e3
    rw [hk]; exact hg
theorem Own3.lt {w : World} {t : TypeId} {lo g n c : Nat} {es : List T3} (h : Own3 w t lo (some ⟨g, 0, none⟩) n c es) : lo ≤ g ∧ g < w.heap.size := by
  rcases h.2 with ⟨h0, _⟩ | ⟨g2, cap, cur, e2, hb2, hg, hr⟩
  · cases h0
  · injection e2 with e3
    injection e3 with e3
    injection e3 with e3
    subst e3
    exact ⟨hb2, (Array.getElem?_eq_some_iff.1 hg).1⟩
theorem Own3.low {w : World} {t : TypeId} {lo lo' g n c : Nat} {es : List T3} (h : Own3 w t lo (some ⟨g, 0, none⟩) n c es) (hl : lo' ≤ lo) : Own3 w t lo' (some ⟨g, 0, none⟩) n c es := by
  refine ⟨h.1, ?_⟩
  rcases h.2 with h0 | ⟨g2, cap, cur, e2, hb2, hg, hr⟩
  · exact .inl h0
  · exact .inr ⟨g2, cap, cur, e2, by omega, hg, hr⟩
theorem Own3.up {w : World} {t : TypeId} {lo lo' g n c : Nat} {es : List T3} (h : Own3 w t lo (some ⟨g, 0, none⟩) n c es) (hl : lo' ≤ g) : Own3 w t lo' (some ⟨g, 0, none⟩) n c es := by
  refine ⟨h.1, ?_⟩
  rcases h.2 with h0 | ⟨g2, cap, cur, e2, hb2, hg, hr⟩
  · exact .inl h0
  · refine .inr ⟨g2, cap, cur, e2, ?_, hg, hr⟩
    injection e2 with e3
    injection e3 with e3
    injection e3 with e3
    omega
section
variable {w w' : World} {lo hi g g' n n' : Nat} {ms rs : List T3}
theorem Own2.keep (h : Own2 w lo hi g g' n n' ms rs) (hs : w.heap.size ≤ w'.heap.size) (hk : ∀ b, lo ≤ b → b < hi → w'.heap[b]? = w.heap[b]?) : Own2 w' lo hi g g' n n' ms rs := by
  have h1 := h.lo_
  have h2 := h.mid
  have h3 := h.hi_
  exact ⟨h1, h2, h3, Nat.le_trans h.sz hs, Own3.block h.m (hk g (by omega) (by omega)), Own3.block h.r (hk g' (by omega) (by omega))⟩
theorem Own2.call (h : Own2 w lo hi g g' n n' ms rs) (hb : Below w.heap.size w w') : Own2 w' lo hi g g' n n' ms rs :=
  h.keep hb.size fun b _ hl => hb.block b (by have := h.sz; omega)
theorem Own2.grown {row : Option Nat} (h : Own2 w lo hi g g' n n' ms rs) (hg : w.grownBy w' row) (hr : ∀ x, row = some x → x < lo ∨ hi ≤ x) : Own2 w' lo hi g g' n n' ms rs :=
  h.keep hg.size fun b hb hl => hg.block b (by have := h.sz; omega) (fun e => by have := hr b e.symm; omega)
theorem Own2.months {l : List Mth} (h : Own2 w lo hi g g' n n' (l.map mT) rs) : Months w w.heap.size (some ⟨g, 0, none⟩) n l := Own3.tri h.m (Nat.le_refl _)
theorem Own2.rules {l : List Rul} (h : Own2 w lo hi g g' n n' ms (l.map rT)) : Rules w w.heap.size (some ⟨g', 0, none⟩) n' l := Own3.tri h.r (Nat.le_refl _)
end
/-- a call gives a new calendar -/
def NewCal (w : World) (nm : ByteArray) (n n' : Nat) (ms : List Mth) (rs : List Rul) (we : Int) (e : Ending) (w' : World) : Prop := ∃ g g', e = .returned (.agg #[.string nm, .slice (some ⟨g, 0, none⟩) n n, .slice (some ⟨g', 0, none⟩) n' n', .int .i64 we]) ∧ Own2 w' w.heap.size w'.heap.size g g' n n' (ms.map mT) (rs.map rT) ∧ Below w.heap.size w w'
end Go.Proofs.YtmbdedkelckedaaGreatDoor

/- The law of append of one int64 to a slice of the call's own, in the words of Ints; the word for results that are new slices. No conditions but that a slice stays below 2^40 elements. -/
namespace Go.Proofs.YtmbdedkelckedaaGreatDoor
open Go.RowKit
set_option linter.unusedVariables false
set_option linter.unusedSimpArgs false

theorem own_append {w : World} {base n : Nat} {zs : List Int} {v' : Value} {x : Int} (h : w.ownsRow base 2 1 v' (n + 1) (zs.map (Value.int .i64) ++ [.int .i64 x])) :
    ∃ A' c', v' = .slice A' (n + 1) c' ∧ Own w base A' (n + 1) c' (zs ++ [x]) := by
  rcases h.2 with ⟨_, h0⟩ | ⟨g, cap, cur, e, _⟩
  · omega
  · refine ⟨_, _, e, ?_⟩
    subst e
    have e2 : (zs ++ [x]).map (Value.int .i64) = zs.map (Value.int .i64) ++ [.int .i64 x] := by simp
    unfold Own
    rw [e2]; exact h

theorem wpList_app {ops : Array Oper} {rest : List Oper} {o : Oper} {a : Act} {Q : Exit → Act → World → Prop} (hgd : o.guard = none) (s x : Operand)
    (ho : o.op = .call { callee := .builtin .append, args := #[s, x], argTypes := #[28, 28] })
    (w : World) (base : Nat) (A : Option Addr) (n c : Nat) (zs : List Int) (hs : a.eval s = .slice A n c) (hown : Own w base A n c zs) (g : Nat) (hx : a.eval x = .slice (some ⟨g, 0, none⟩) 1 1) (v : Int)
    (hcell : w.cell? ⟨g, 0, none⟩ = some (.int .i64 v)) (hn : n ≤ 1000000000000) (hb : base ≤ w.heap.size)
    (h : ∀ A' c' w', Own w' base A' (n + 1) c' (zs ++ [v]) → Below base w w' → wpList Tryz.prog ops Q rest (a.put o.dst (.slice A' (n + 1) c')) w') : wpList Tryz.prog ops Q (o :: rest) a w := by
  obtain ⟨i0, hi, hz0, hz1, hz2⟩ := info_parts info_int64
  refine wpList_append_own_at (P := Tryz.prog) w hgd s x 28 ho base 2 i0 (.int .i64 0) 1 8 Tryz.underlying28 hi hz0 hz1 hz2 rfl (by omega) (.slice A n c) n (zs.map (Value.int .i64)) hs hown ⟨g, 0, none⟩ 1 1 [.int .i64 v] hx rfl
    (fun j u hj => ?_) (by simp [Value.oneCell']) (by simp only [maxLen]; omega) (by omega) hb (fun v' w' h1 h2 _ _ => ?_)
  · match j, hj with
    | 0, hj =>
      simp at hj
      subst hj
      simpa [Addr.add] using hcell
  · obtain ⟨A', c', rfl, h3⟩ := own_append h1
    refine h A' c' w' h3 ((Below.refl base w).grown h2 hb (fun k hk => ?_))
    rcases hown.form with ⟨rfl, _⟩ | ⟨g', rfl, hg', _⟩
    · simp [Value.ownBlock] at hk
    · simp [Value.ownBlock] at hk; omega
theorem own_empty {w : World} {base g : Nat} (hg : g = w.heap.size) (hb : base ≤ w.heap.size) : Own (w.alloc (.cells #[] 2)) base (some ⟨g, 0, none⟩) 0 0 [] := by
  subst hg
  exact World.ownsRow_lit w #[] 0 hb (Nat.zero_le _) (by simp)
/-- a call gives a new slice that reads as zs -/
def NewInts (w : World) (zs : List Int) (e : Ending) (w' : World) : Prop := ∃ A n c, e = .returned (.slice A n c) ∧ Own w' w.heap.size A n c zs ∧ Below w.heap.size w w'
/-- a call gives a new slice that reads as zs, and a code -/
def NewIntsCode (w : World) (zs : List Int) (code : Int) (e : Ending) (w' : World) : Prop := ∃ A n c, e = .returned (.tuple #[.slice A n c, .int .i64 code]) ∧ Own w' w.heap.size A n c zs ∧ Below w.heap.size w w'
end Go.Proofs.YtmbdedkelckedaaGreatDoor

/- Words for laws over new slices: what stays as it was when one block alone is written. No conditions. -/
namespace Go.Proofs.YtmbdedkelckedaaGreatDoor
open Go.RowKit
set_option linter.unusedVariables false
set_option linter.unusedSimpArgs false
/-- an own slice whose block lies from lo to hi -/
def OwnIn (W : World) (lo hi : Nat) (A : Option Addr) (n c : Nat) (zs : List Int) : Prop := Own W lo A n c zs ∧ ∀ ad, A = some ad → ad.block < hi
section
variable {W W' : World} {lo hi B n c : Nat} {A : Option Addr} {zs ys : List Int} {row : Option Nat}
theorem OwnIn.of (h : Own W lo A n c zs) : OwnIn W lo W.heap.size A n c zs := by
  refine ⟨h, fun ad e => ?_⟩
  rcases h.form with ⟨h0, _⟩ | ⟨g, h0, _, hl⟩
  · rw [h0] at e; cases e
  · rw [h0] at e; cases e; exact hl
theorem OwnIn.len (h : OwnIn W lo hi A n c zs) : zs.length = n := h.1.len
theorem OwnIn.keep (h : OwnIn W lo hi A n c zs) (hk : ∀ b, lo ≤ b → b < hi → W'.heap[b]? = W.heap[b]?) : OwnIn W' lo hi A n c zs := by
  refine ⟨⟨h.1.1, ?_⟩, h.2⟩
  rcases h.1.2 with h0 | ⟨g, cap, cur, e, hb, hh, hr⟩
  · exact .inl h0
  · have hg : g < hi := by injection e with e1; have := h.2 _ e1; exact this
    exact .inr ⟨g, cap, cur, e, hb, by rw [hk g hb hg]; exact hh, hr⟩
theorem OwnIn.call (h : OwnIn W lo hi A n c zs) (hb : Below W.heap.size W W') (hh : hi ≤ W.heap.size) : OwnIn W' lo hi A n c zs := h.keep fun b _ hl => hb.block b (by omega)
theorem OwnIn.grown (h : OwnIn W lo hi A n c zs) (hg : W.grownBy W' row) (hr : ∀ g, row = some g → g < lo ∨ hi ≤ g) (hh : hi ≤ W.heap.size) : OwnIn W' lo hi A n c zs :=
  h.keep fun b hb hl => hg.block b (by omega) (fun e => by have := hr b e.symm; omega)
theorem OwnIn.ints (h : OwnIn W lo hi A n c zs) (hB : hi ≤ B) : Ints W B A n zs := by
  refine ⟨h.len, fun hn => ?_⟩
  have hi' := h.1.ints (Nat.le_refl _)
  obtain ⟨b, off, e, _, hc⟩ := hi'.2 hn
  exact ⟨b, off, e, by have := h.2 _ e; simp at this; omega, hc⟩
theorem OwnIn.blk (h : OwnIn W lo hi A n c zs) : ∀ g, (Value.slice A n c).ownBlock = some g → lo ≤ g ∧ g < hi := by
  intro g hg
  rcases h.1.form with ⟨h0, _⟩ | ⟨g', h0, hb, _⟩
  · rw [h0] at hg; simp [Value.ownBlock] at hg
  · rw [h0] at hg
    simp [Value.ownBlock] at hg
    have := h.2 _ h0
    simp at this
    omega
/-- behind a writing into the row itself -/
theorem OwnIn.self (h : OwnIn W lo hi A n c zs) (h' : Own W' lo A n c ys) : OwnIn W' lo hi A n c ys := ⟨h', h.2⟩
theorem OwnIn.below (h : OwnIn W lo hi A n c zs) {w : World} (hb : Below w.heap.size w W) (hg : W.grownBy W' (Value.slice A n c).ownBlock) (hl : w.heap.size ≤ lo) : Below w.heap.size w W' :=
  hb.grown hg hb.size (fun k hk => by have := (h.blk k hk).1; omega)
theorem OwnIn.size (h : OwnIn W lo hi A n c zs) (hg : W.grownBy W' (Value.slice A n c).ownBlock) : W.heap.size ≤ W'.heap.size := hg.size
theorem OwnIn.cell (h : OwnIn W lo hi A n c zs) (hg : W.grownBy W' (Value.slice A n c).ownBlock) {b o : Nat} {v : Value} (hc : W.cell? ⟨b, o, none⟩ = some v) (hb : b < lo ∨ hi ≤ b) : W'.cell? ⟨b, o, none⟩ = some v :=
  hg.cell hc (fun e => by have := h.blk b e.symm; omega)
theorem Ints.grown (h : Ints W B A n zs) (hg : W.grownBy W' row) (hB : B ≤ W.heap.size) (hr : ∀ g, row = some g → B ≤ g) : Ints W' B A n zs :=
  h.keep fun p hp => World.cell?_of_block (hg.block p.block (by omega) (fun e => by have := hr _ e.symm; omega))
end
end Go.Proofs.YtmbdedkelckedaaGreatDoor

/- Contracts of the two functions IsName. No conditions. -/
namespace Go.Proofs.YtmbdedkelckedaaGreatDoor
open Go.RowKit
set_option linter.unusedVariables false
set_option linter.unusedSimpArgs false
def smallB (b : UInt8) : Bool := decide (97 ≤ b.toNat) && decide (b.toNat ≤ 122)
def digB (b : UInt8) : Bool := decide (48 ≤ b.toNat) && decide (b.toNat ≤ 57)
def nameB (b : UInt8) : Bool := smallB b || digB b || decide (b.toNat = 45)
/-- a text is a name -/
def vName (l : List UInt8) : Bool := decide (1 ≤ l.length) && decide (l.length ≤ 12) && smallB (l.getD 0 0) && l.all nameB
theorem vName_len {l : List UInt8} (h : ¬ (1 ≤ l.length ∧ l.length ≤ 12)) : vName l = false := by
  unfold vName
  by_cases h1 : 1 ≤ l.length
  · have h2 : ¬ l.length ≤ 12 := fun e => h ⟨h1, e⟩
    simp [h2]
  · simp [h1]
theorem vName_first {l : List UInt8} (h : smallB (l.getD 0 0) = false) : vName l = false := by unfold vName; rw [h]; simp
theorem vName_bad {l : List UInt8} {k : Nat} (hk : k < l.length) (h : nameB (l.getD k 0) = false) : vName l = false := by
  have : l.all nameB = false := by
    rw [List.all_eq_false]
    refine ⟨l[k], List.getElem_mem hk, ?_⟩
    rw [List.getD_eq_getElem?_getD, List.getElem?_eq_getElem hk] at h
    simpa using h
  unfold vName; rw [this]; simp
theorem vName_good {l : List UInt8} (h1 : 1 ≤ l.length) (h2 : l.length ≤ 12) (h3 : smallB (l.getD 0 0) = true) (h4 : ∀ j, j < l.length → nameB (l.getD j 0) = true) : vName l = true := by
  have : l.all nameB = true := by
    rw [List.all_eq_true]
    intro x hx
    obtain ⟨j, hj, rfl⟩ := List.mem_iff_getElem.1 hx
    have := h4 j hj
    rwa [List.getD_eq_getElem?_getD, List.getElem?_eq_getElem hj] at this
  unfold vName; rw [this, h3]; simp [h1, h2]
theorem byte_getD {s : ByteArray} {k : Nat} (hk : k < s.size) : s[k] = s.data.toList.getD k 0 := by
  have h : k < s.data.toList.length := by simpa using hk
  rw [List.getD_eq_getElem?_getD, List.getElem?_eq_getElem h]; rfl
theorem list_size (s : ByteArray) : s.data.toList.length = s.size := by simp
theorem smallB_iff (b : UInt8) : smallB b = true ↔ ((97 : Int) ≤ (b.toNat : Int) ∧ (b.toNat : Int) ≤ 122) := by
  unfold smallB
  rw [Bool.and_eq_true, decide_eq_true_eq, decide_eq_true_eq]
  constructor <;> intro h <;> omega
theorem digB_iff (b : UInt8) : digB b = true ↔ ((48 : Int) ≤ (b.toNat : Int) ∧ (b.toNat : Int) ≤ 57) := by
  unfold digB
  rw [Bool.and_eq_true, decide_eq_true_eq, decide_eq_true_eq]
  constructor <;> intro h <;> omega
theorem nameB_iff (b : UInt8) : nameB b = true ↔ (((97 : Int) ≤ (b.toNat : Int) ∧ (b.toNat : Int) ≤ 122) ∨ ((48 : Int) ≤ (b.toNat : Int) ∧ (b.toNat : Int) ≤ 57) ∨ (b.toNat : Int) = 45) := by
  unfold nameB
  rw [Bool.or_eq_true, Bool.or_eq_true, smallB_iff, digB_iff, decide_eq_true_eq]
  constructor <;> intro h <;> omega
theorem no_of {x : Bool} {p : Prop} (h : x = true ↔ p) (hn : ¬ p) : x = false := by
  cases hx : x
  · rfl
  · exact absurd (h.1 hx) hn
set_option maxRecDepth 8000 in
set_option maxHeartbeats 4000000 in
theorem IsName_any (s : ByteArray) (w : World) : Calls Tryz.prog 72 #[.string s] w fun e w' => e = .returned (.bool (vName s.data.toList)) ∧ Below w.heap.size w w' := by
  have hl := list_size s
  by_cases h1 : s.size < 1
  · have i1 : (s.size : Int) < 1 := by omega
    have HV := Lib.hid (vName_len (l := s.data.toList) (by omega))
    clear hl
    go_enter Tryz.func72, Tryz.ntmps72
    go_wp2
    go_ret
    exact ⟨by rw [HV.out]; rfl, Below.refl _ _⟩
  · have i1 : ¬ ((s.size : Int) < 1) := by omega
    by_cases h12 : 12 < s.size
    · have i2 : (12 : Int) < (s.size : Int) := by omega
      have HV := Lib.hid (vName_len (l := s.data.toList) (by omega))
      clear hl
      go_enter Tryz.func72, Tryz.ntmps72
      go_wp2
      go_ret
      exact ⟨by rw [HV.out]; rfl, Below.refl _ _⟩
    · have i2 : ¬ ((12 : Int) < (s.size : Int)) := by omega
      have HL := Lib.hid hl
      have hcv := Lib.run_convert_string_bytes (P := Tryz.prog) w 9 22 5 s Tryz.underlying9 Tryz.underlying22 Tryz.underlying5
      obtain ⟨cp, hcp⟩ : ∃ cp, grownCap w s.size 0 5 = cp := ⟨_, rfl⟩
      rw [hcp] at hcv
      have hcells := fun j hj => Lib.bytesWorld_cell w 5 s j hj
      have hbw : Below w.heap.size w (Lib.bytesWorld w 5 s) := Lib.bytesWorld_below w _ s
      have hsz := Lib.bytesWorld_size w 5 s
      obtain ⟨wb, hwb⟩ : ∃ wb, Lib.bytesWorld w 5 s = wb := ⟨_, rfl⟩
      rw [hwb] at hcv hcells hbw hsz
      have HC := Lib.hid hcells
      clear hl hcells hcp hwb
      go_enter Tryz.func72, Tryz.ntmps72
      go_wp2
      go_loopw [18, 3, 4, 5, 6] (fun t _ _ _ _ wr => ∃ k : Nat, t = .int .i64 k ∧ k ≤ s.size ∧ Hid (∀ j, j < k → nameB (s.data.toList.getD j 0) = true) ∧ Hid (0 < k → smallB (s.data.toList.getD 0 0) = true) ∧ wr = wb) (fun t _ _ _ _ _ => s.size - (intOf t).toNat)
      case atStart => exact ⟨0, rfl, Nat.zero_le _, Lib.hid (fun j hj => absurd hj (by omega)), Lib.hid (fun h => absurd h (by omega)), rfl⟩
      case round =>
        obtain ⟨k, rfl, hk, hA, hF, rfl⟩ := hrel
        have i0 : (0 : Int) ≤ (k : Int) := Int.natCast_nonneg _
        by_cases hlt : k < s.size
        · have i3 : (k : Int) < (s.size : Int) := by omega
          have hc := HC.out k hlt
          obtain ⟨b, hb⟩ : ∃ b, s.data.toList.getD k 0 = b := ⟨_, rfl⟩
          rw [hb] at hc
          have HB := Lib.hid hb
          clear hb
          by_cases a6 : k = 0
          · subst a6
            by_cases a1 : (97 : Int) ≤ (b.toNat : Int) <;> by_cases a2 : (b.toNat : Int) ≤ 122 <;> by_cases a3 : (48 : Int) ≤ (b.toNat : Int) <;> by_cases a4 : (b.toNat : Int) ≤ 57 <;> by_cases a5 : b.toNat = 45 <;> (try (exfalso; omega))
            all_goals
              (try have a10 : ((b.toNat : Int) == 45) = false := beq_eq_false_iff_ne.2 (by omega))
              first
                | (have HN := Lib.hid (show smallB b = true from (smallB_iff b).2 (by omega))
                   go_wp2
                   go_roundw
                   case rel =>
                     refine ⟨1, by go_num, by omega, Lib.hid (fun j hj => ?_), Lib.hid (fun _ => ?_), trivial⟩
                     · obtain rfl : j = 0 := by omega
                       rw [HB.out]; unfold nameB; rw [HN.out]; rfl
                     · rw [HB.out]; exact HN.out
                   case measure => simp [intOf]; omega)
                | (have HV := Lib.hid (show vName s.data.toList = false from vName_first (by rw [HB.out]; exact no_of (smallB_iff b) (by omega)))
                   go_wp2
                   go_ret
                   exact ⟨by rw [HV.out]; rfl, hbw⟩)
          · have a8 : ¬ ((k : Int) = 0) := by omega
            have a7 : ((k : Int) == 0) = false := by simpa using a6
            have a9 : (k == 0) = false := by simpa using a6
            by_cases a1 : (97 : Int) ≤ (b.toNat : Int) <;> by_cases a2 : (b.toNat : Int) ≤ 122 <;> by_cases a3 : (48 : Int) ≤ (b.toNat : Int) <;> by_cases a4 : (b.toNat : Int) ≤ 57 <;> by_cases a5 : b.toNat = 45 <;> (try (exfalso; omega))
            all_goals
              (try have a10 : ((b.toNat : Int) == 45) = false := beq_eq_false_iff_ne.2 (by omega))
              first
                | (have HN := Lib.hid (show nameB b = true from (nameB_iff b).2 (by omega))
                   go_wp2
                   all_goals
                     refine ⟨⟨k + 1, by go_num, by omega, Lib.hid (fun j hj => ?_), Lib.hid (fun _ => hF.out (by omega)), trivial⟩, by simp [intOf]; omega⟩
                     by_cases e : j = k
                     · subst e; rw [HB.out]; exact HN.out
                     · exact hA.out j (by omega))
                | (have HV := Lib.hid (show vName s.data.toList = false from vName_bad (k := k) (by rw [HL.out]; exact hlt) (by rw [HB.out]; exact no_of (nameB_iff b) (by omega)))
                   go_wp2
                   go_ret
                   exact ⟨by rw [HV.out]; rfl, hbw⟩)
        · have HV := Lib.hid (show vName s.data.toList = true from vName_good (by rw [HL.out]; omega) (by rw [HL.out]; omega) (hF.out (by omega)) (fun j hj => hA.out j (by rw [HL.out] at hj; omega)))
          go_wp2
          go_ret
          exact ⟨by rw [HV.out]; rfl, hbw⟩
end Go.Proofs.YtmbdedkelckedaaGreatDoor

/- Contract of the reference's IsName. No conditions. -/
namespace Go.Proofs.YtmbdedkelckedaaGreatDoor
open Go.RowKit
set_option linter.unusedVariables false
set_option linter.unusedSimpArgs false
set_option maxHeartbeats 400000 in
theorem l01Small_val (b : UInt8) (w : World) (v : Bool) (hv : smallB b = v) :
    Calls Tryz.prog 112 #[.int .u8 (b.toNat : Int)] w fun e w' => e = .returned (.bool v) ∧ w = w' := by
  rw [← hv]
  clear hv
  by_cases h1 : (97 : Int) ≤ (b.toNat : Int)
  · by_cases h2 : (b.toNat : Int) ≤ 122
    · have hd : smallB b = true := (smallB_iff b).2 ⟨h1, h2⟩
      rw [hd]
      clear hd
      go_enter Tryz.func112, Tryz.ntmps112
      go_wp2
      go_ret
      exact ⟨rfl, rfl⟩
    · have hd : smallB b = false := no_of (smallB_iff b) (by omega)
      rw [hd]
      clear hd
      go_enter Tryz.func112, Tryz.ntmps112
      go_wp2
      go_ret
      exact ⟨rfl, rfl⟩
  · have hd : smallB b = false := no_of (smallB_iff b) (by omega)
    rw [hd]
    clear hd
    go_enter Tryz.func112, Tryz.ntmps112
    go_wp2
    go_ret
    exact ⟨rfl, rfl⟩
set_option maxHeartbeats 400000 in
theorem l01Digit_val (b : UInt8) (w : World) (v : Bool) (hv : digB b = v) :
    Calls Tryz.prog 89 #[.int .u8 (b.toNat : Int)] w fun e w' => e = .returned (.bool v) ∧ w = w' := by
  rw [← hv]
  clear hv
  by_cases h1 : (48 : Int) ≤ (b.toNat : Int)
  · by_cases h2 : (b.toNat : Int) ≤ 57
    · have hd : digB b = true := (digB_iff b).2 ⟨h1, h2⟩
      rw [hd]
      clear hd
      go_enter Tryz.func89, Tryz.ntmps89
      go_wp2
      go_ret
      exact ⟨rfl, rfl⟩
    · have hd : digB b = false := no_of (digB_iff b) (by omega)
      rw [hd]
      clear hd
      go_enter Tryz.func89, Tryz.ntmps89
      go_wp2
      go_ret
      exact ⟨rfl, rfl⟩
  · have hd : digB b = false := no_of (digB_iff b) (by omega)
    rw [hd]
    clear hd
    go_enter Tryz.func89, Tryz.ntmps89
    go_wp2
    go_ret
    exact ⟨rfl, rfl⟩
set_option maxRecDepth 8000 in
set_option maxHeartbeats 1000000 in
theorem specIsName_any (s : ByteArray) (w : World) : Calls Tryz.prog 96 #[.string s] w fun e w' => e = .returned (.bool (vName s.data.toList)) ∧ Below w.heap.size w w' := by
  have hl := list_size s
  have etl : s.toList = s.data.toList := ByteArray.toList_eq s
  by_cases h1 : s.size = 0
  · have HV := Lib.hid (vName_len (l := s.data.toList) (by omega))
    have hs : s = ⟨#[]⟩ := by
      apply ByteArray.ext
      exact Array.eq_empty_of_size_eq_zero h1
    subst hs
    clear hl etl
    go_enter Tryz.func96, Tryz.ntmps96
    go_wp2
    go_ret
    exact ⟨by rw [HV.out]; rfl, Below.refl _ _⟩
  · have q0 : s.toList ≠ [] := by rw [etl]; intro e; rw [e] at hl; simp at hl; omega
    have q1 : (s.toList == []) = false := by simpa using q0
    have i0 : (0 : Int) < (s.size : Int) := by omega
    by_cases h12 : 12 < s.size
    · have i2 : (12 : Int) < (s.size : Int) := by omega
      have HV := Lib.hid (vName_len (l := s.data.toList) (by omega))
      clear hl etl
      go_enter Tryz.func96, Tryz.ntmps96
      go_wp2
      go_ret
      exact ⟨by rw [HV.out]; rfl, Below.refl _ _⟩
    · have i2 : ¬ ((12 : Int) < (s.size : Int)) := by omega
      have HL := Lib.hid hl
      have hb0 : 0 < s.size := by omega
      obtain ⟨b0, e0⟩ : ∃ b0, s[0] = b0 := ⟨_, rfl⟩
      have HB0 := Lib.hid ((byte_getD hb0).symm.trans e0)
      clear hl etl
      cases hs0 : smallB b0
      · have HV := Lib.hid (vName_first (l := s.data.toList) (by rw [HB0.out]; exact hs0))
        have HS := Lib.hid hs0
        clear hs0
        go_enter Tryz.func96, Tryz.ntmps96
        go_wp2_with (first | (go_at_call 112; refine (l01Small_val b0 _ false HS.out).mono ?_; rintro e w' ⟨rfl, rfl⟩) | fail)
        go_ret
        exact ⟨by rw [HV.out]; rfl, Below.refl _ _⟩
      · have HS := Lib.hid hs0
        clear hs0
        go_enter Tryz.func96, Tryz.ntmps96
        go_wp2_with (first | (go_at_call 112; refine (l01Small_val b0 _ true HS.out).mono ?_; rintro e w' ⟨rfl, rfl⟩) | fail)
        go_loopw [3] (fun t wr => ∃ k : Nat, t = .int .i64 k ∧ k ≤ s.size ∧ Hid (∀ j, j < k → nameB (s.data.toList.getD j 0) = true) ∧ wr = w) (fun t _ => s.size - (intOf t).toNat)
        case atStart => exact ⟨0, rfl, Nat.zero_le _, Lib.hid (fun j hj => absurd hj (by omega)), rfl⟩
        case round =>
          obtain ⟨k, rfl, hk, hA, rfl⟩ := hrel
          have j0 : (0 : Int) ≤ (k : Int) := Int.natCast_nonneg _
          by_cases hlt : k < s.size
          · have i3 : (k : Int) < (s.size : Int) := by omega
            obtain ⟨b, hb⟩ : ∃ b, s[k] = b := ⟨_, rfl⟩
            have HB := Lib.hid ((byte_getD hlt).symm.trans hb)
            have HN := Lib.hid (show nameB b = (smallB b || digB b || decide (b.toNat = 45)) from rfl)
            cases hs1 : smallB b
            · cases hd1 : digB b
              · by_cases h45 : b.toNat = 45
                · have HT := Lib.hid (show nameB b = true by rw [HN.out, hs1, hd1]; simp [h45])
                  have a10 : ((b.toNat : Int) != 45) = false := bne_eq_false_iff_eq.2 (by omega)
                  have HS1 := Lib.hid hs1
                  have HD1 := Lib.hid hd1
                  clear hs1 hd1
                  try clear h45
                  go_wp2_with (first | (go_at_call 112; refine (l01Small_val b _ _ HS1.out).mono ?_; rintro e w' ⟨rfl, rfl⟩) | (go_at_call 89; refine (l01Digit_val b _ _ HD1.out).mono ?_; rintro e w' ⟨rfl, rfl⟩) | fail)
                  go_roundw
                  case rel =>
                    refine ⟨k + 1, by go_num, by omega, Lib.hid (fun j hj => ?_), trivial⟩
                    by_cases e : j = k
                    · subst e; rw [HB.out]; exact HT.out
                    · exact hA.out j (by omega)
                  case measure => simp [intOf]; omega
                · have HV := Lib.hid (show vName s.data.toList = false from vName_bad (k := k) (by rw [HL.out]; exact hlt) (by rw [HB.out, HN.out, hs1, hd1]; simp [h45]))
                  have a10 : ((b.toNat : Int) != 45) = true := bne_iff_ne.2 (by omega)
                  have HS1 := Lib.hid hs1
                  have HD1 := Lib.hid hd1
                  clear hs1 hd1
                  try clear h45
                  go_wp2_with (first | (go_at_call 112; refine (l01Small_val b _ _ HS1.out).mono ?_; rintro e w' ⟨rfl, rfl⟩) | (go_at_call 89; refine (l01Digit_val b _ _ HD1.out).mono ?_; rintro e w' ⟨rfl, rfl⟩) | fail)
                  go_ret
                  exact ⟨by rw [HV.out]; rfl, Below.refl _ _⟩
              · have HT := Lib.hid (show nameB b = true by rw [HN.out, hs1, hd1]; rfl)
                have HS1 := Lib.hid hs1
                have HD1 := Lib.hid hd1
                clear hs1 hd1
                try clear h45
                go_wp2_with (first | (go_at_call 112; refine (l01Small_val b _ _ HS1.out).mono ?_; rintro e w' ⟨rfl, rfl⟩) | (go_at_call 89; refine (l01Digit_val b _ _ HD1.out).mono ?_; rintro e w' ⟨rfl, rfl⟩) | fail)
                go_roundw
                case rel =>
                  refine ⟨k + 1, by go_num, by omega, Lib.hid (fun j hj => ?_), trivial⟩
                  by_cases e : j = k
                  · subst e; rw [HB.out]; exact HT.out
                  · exact hA.out j (by omega)
                case measure => simp [intOf]; omega
            · have HT := Lib.hid (show nameB b = true by rw [HN.out, hs1]; rfl)
              have HS1 := Lib.hid hs1
              clear hs1
              go_wp2_with (first | (go_at_call 112; refine (l01Small_val b _ _ HS1.out).mono ?_; rintro e w' ⟨rfl, rfl⟩) | fail)
              go_roundw
              case rel =>
                refine ⟨k + 1, by go_num, by omega, Lib.hid (fun j hj => ?_), trivial⟩
                by_cases e : j = k
                · subst e; rw [HB.out]; exact HT.out
                · exact hA.out j (by omega)
              case measure => simp [intOf]; omega
          · have HV := Lib.hid (show vName s.data.toList = true from vName_good (by rw [HL.out]; omega) (by rw [HL.out]; omega) (by rw [HB0.out]; exact HS.out) (fun j hj => hA.out j (by rw [HL.out] at hj; omega)))
            go_wp2
            go_ret
            exact ⟨by rw [HV.out]; rfl, Below.refl _ _⟩
end Go.Proofs.YtmbdedkelckedaaGreatDoor
