/- Turned wheels: the program puts two parts together, the reference counts round. No conditions but that a wheel has at most 2^20 gaps. -/
import Derived.Test.YtajcbppndkkbpaaGreatDoorMany
import Derived.Test.YtajcbppndkkbpaaGreatDoorAppM
import Derived.Test.YtajcbppndkkbpaaGreatDoorLawKit
import Derived.Lib.AppendZeros
namespace Go.Proofs.YtajcbppndkkbpaaGreatDoor
open Go.RowKit
set_option linter.unusedVariables false
set_option linter.unusedSimpArgs false
set_option maxRecDepth 8000
theorem many_turn {zs : List Int} {n k : Nat} (hl : zs.length = n) (hk : k < n) : manyL zs n k n = zs.drop k ++ zs.take k := by
  apply List.ext_getElem
  · simp [manyL_len]; omega
  · intro j h1 h2
    rw [manyL_len] at h1
    have e : (manyL zs n k n)[j]'(by rw [manyL_len]; exact h1) = zs.getD ((k + j) % n) 0 := by rw [← manyL_getD h1, getD_of]
    rw [e]
    by_cases hj : k + j < n
    · rw [Nat.mod_eq_of_lt hj, getD_of (by omega), List.getElem_append_left (by simp; omega)]
      simp
    · have em : (k + j) % n = k + j - n := by rw [Nat.mod_eq_sub_mod (by omega), Nat.mod_eq_of_lt (by omega)]
      rw [em, getD_of (by omega), List.getElem_append_right (by simp; omega)]
      simp
      congr 1; omega
theorem own_zero (w : World) (cap : Nat) (hc : cap ≤ maxLen) (cur : Array Value) (hs : cur.size = cap) : Own (w.alloc (.cells cur 2)) w.heap.size (some ⟨w.heap.size, 0, none⟩) 0 cap [] :=
  ⟨rfl, .inr ⟨w.heap.size, cap, cur, rfl, Nat.le_refl _, by show (w.heap.push _)[w.heap.size]? = _; simp, Nat.zero_le _, hc, by omega, by simp⟩⟩
set_option maxHeartbeats 1000000 in
theorem Grow_nil (n : Nat) (w : World) (hn1 : 1 ≤ n) (hn : n ≤ 1048576) :
    Calls Tryz.prog 60 #[.slice none 0 0, .int .i64 n] w fun e w' => (∃ (g cap : Nat), e = .returned (.slice (some ⟨g, 0, none⟩) 0 cap) ∧ Own w' w.heap.size (some ⟨g, 0, none⟩) 0 cap []) ∧ Below w.heap.size w w' := by
  obtain ⟨i0, hi, hz0, hz1, hz2⟩ := info_parts info_int64
  have hrun := fun (W : World) => Lib.run_append_nil_zeros (P := Tryz.prog) W 24 3 24 2 i0 (.int .i64 0) .i64 .i64 Tryz.underlying24 Tryz.underlying3 hi hz0 n (by omega) (by omega) (by omega) (by rw [hz2]; omega)
  have hcl := grownCap_le_maxLen w n 0 2 (by unfold maxLen; omega)
  have hcg := grownCap_ge w n 0 2
  obtain ⟨cap, hcap⟩ : ∃ cap, grownCap w n 0 2 = cap := ⟨_, rfl⟩
  have hr := hrun w
  rw [hcap] at hr hcl hcg
  have hown := own_zero w.drew cap hcl (Builtin.zeroCells (Value.int IntKind.i64 0).cells n ++ Builtin.zeroCells (Value.int IntKind.i64 0).cells (cap - n)) (by simp [size_zeroCells, Value.cells]; omega)
  have hb : Below w.heap.size w (w.drew.alloc (.cells (Builtin.zeroCells (Value.int IntKind.i64 0).cells n ++ Builtin.zeroCells (Value.int IntKind.i64 0).cells (cap - n)) 2)) := (Below.refl _ _).drew.alloc (Nat.le_refl _) _
  generalize w.drew.alloc (.cells (Builtin.zeroCells (Value.int IntKind.i64 0).cells n ++ Builtin.zeroCells (Value.int IntKind.i64 0).cells (cap - n)) 2) = w1 at *
  have HR := Lib.hid hr
  have HO := Lib.hid hown
  have i1 : (0 : Int) < (n : Int) := by omega
  have i2 : (cap : Int) ≤ 9223372036854775807 := by unfold maxLen at hcl; omega
  clear hi hz0 hz1 hz2 hrun hcap hr hown
  go_enter Tryz.func60, Tryz.ntmps60
  go_wp2_with (at_builtin; refine Lib.wpList_append_run _ rfl _ _ _ _ rfl _ _ rfl rfl _ _ HR.out ?_)
  go_ret
  exact ⟨⟨w.heap.size, cap, rfl, HO.out⟩, hb⟩
def sz2 (m1 m2 : Nat) : Nat → Nat
  | 0 => 0
  | 1 => m1
  | _ => m1 + m2
def acc2 (ys1 ys2 : List Int) : Nat → List Int
  | 0 => []
  | 1 => ys1
  | _ => ys1 ++ ys2
set_option maxHeartbeats 4000000 in
theorem Concat_two (gb b1 o1 m1 c1 b2 o2 m2 c2 B cc : Nat) (ys1 ys2 : List Int) (w : World) (q1 : w.cell? ⟨gb, 0, none⟩ = some (.slice (some ⟨b1, o1, none⟩) m1 c1)) (q2 : w.cell? ⟨gb, 1, none⟩ = some (.slice (some ⟨b2, o2, none⟩) m2 c2))
    (h1 : Ints w B (some ⟨b1, o1, none⟩) m1 ys1) (h2 : Ints w B (some ⟨b2, o2, none⟩) m2 ys2) (hB : B ≤ w.heap.size) (hm : 1 ≤ m1) (hn : m1 + m2 ≤ 1048576) :
    Calls Tryz.prog 43 #[.slice (some ⟨gb, 0, none⟩) 2 cc] w (NewIntsN w (m1 + m2) (ys1 ++ ys2)) := by
  have hgb := World.block_lt_of_cell? w _ q1
  simp only at hgb
  have H1 := Lib.hid (h1.more hB)
  have H2 := Lib.hid (h2.more hB)
  clear h1 h2 hB
  go_enter Tryz.func43, Tryz.ntmps43
  go_wp2
  go_loop [3, 11] (fun s t => ∃ k : Nat, k ≤ 2 ∧ t = .int .i64 (k : Int) ∧ s = .int .i64 (sz2 m1 m2 k : Int)) (fun _ t => 2 - (intOf t).toNat)
  case atStart => exact ⟨0, by omega, rfl, rfl⟩
  case round =>
    obtain ⟨k, hk, rfl, rfl⟩ := hrel
    rcases (show k = 0 ∨ k = 1 ∨ k = 2 by omega) with rfl | rfl | rfl
    · rw [show (sz2 m1 m2 0 : Int) = 0 from rfl, show ((0 : Nat) : Int) = 0 from rfl]
      go_wp2
      go_round
      case rel => exact ⟨1, by omega, by simp, by simp [sz2]⟩
      case measure => simp [intOf]
    · rw [show (sz2 m1 m2 1 : Int) = (m1 : Int) from rfl, show ((1 : Nat) : Int) = 1 from rfl]
      go_wp2
      go_round
      case rel => exact ⟨2, by omega, by simp, by simp [sz2]⟩
      case measure => simp [intOf]
    · rw [show (sz2 m1 m2 2 : Int) = ((m1 + m2 : Nat) : Int) from rfl, show ((2 : Nat) : Int) = 2 from rfl]
      go_wp2_with fail
      go_at_call 60
      refine (Grow_nil (m1 + m2) _ (by omega) hn).mono ?_
      rintro e w1 ⟨⟨g, cap, rfl, ho1⟩, hb1⟩
      have HO1 := Lib.hid ho1
      clear ho1
      go_wp2
      go_loopw [6, 27] (fun l t wr => ∃ (k c' : Nat) (L : Option Addr), k ≤ 2 ∧ t = .int .i64 (k : Int) ∧ l = .slice L (sz2 m1 m2 k) c' ∧ Hid (Own wr w.heap.size L (sz2 m1 m2 k) c' (acc2 ys1 ys2 k)) ∧ Below w.heap.size w wr) (fun _ t _ => 2 - (intOf t).toNat)
      case atStart => exact ⟨0, cap, _, by omega, rfl, rfl, HO1, hb1⟩
      case round =>
        obtain ⟨k, c', L, hk, rfl, rfl, ho, hB⟩ := hrel
        have z1 := hB.size
        have r1 : wr.cell? ⟨gb, 0, none⟩ = some (.slice (some ⟨b1, o1, none⟩) m1 c1) := cell_call hB hgb q1
        have r2 : wr.cell? ⟨gb, 1, none⟩ = some (.slice (some ⟨b2, o2, none⟩) m2 c2) := cell_call hB hgb q2
        have I1 := Lib.hid (Ints.below H1.out hB)
        have I2 := Lib.hid (Ints.below H2.out hB)
        have HB := Lib.hid hB
        clear hB q1 q2 hb1
        rcases (show k = 0 ∨ k = 1 ∨ k = 2 by omega) with rfl | rfl | rfl
        · rw [show ((0 : Nat) : Int) = 0 from rfl]
          go_wp2_with (at_builtin; refine wpList_appM rfl _ _ rfl _ w.heap.size w.heap.size _ _ _ _ rfl ho.out _ _ _ _ ys1 rfl I1.out (by omega) (by simp [sz2]; omega) z1 ?_; intro L2 d2 w2 ho2 hb2; have HO2 := Lib.hid ho2; clear ho2)
          go_roundw
          case rel => exact ⟨1, d2, L2, by omega, by simp, by simp [sz2], by have := HO2.out; simp [sz2, acc2] at this; exact this, HB.out.trans hb2⟩
          case measure => simp [intOf]
        · rw [show ((1 : Nat) : Int) = 1 from rfl]
          go_wp2_with (at_builtin; refine wpList_appM rfl _ _ rfl _ w.heap.size w.heap.size _ _ _ _ rfl ho.out _ _ _ _ ys2 rfl I2.out (by simp [sz2]; omega) (by simp [sz2]; omega) z1 ?_; intro L2 d2 w2 ho2 hb2; have HO2 := Lib.hid ho2; clear ho2)
          go_roundw
          case rel => exact ⟨2, d2, L2, by omega, by simp, by simp [sz2], by have := HO2.out; simp [sz2, acc2] at this; exact this, HB.out.trans hb2⟩
          case measure => simp [intOf]
        · rw [show ((2 : Nat) : Int) = 2 from rfl]
          go_wp2
          go_ret
          exact ⟨L, c', rfl, ho.out, HB.out⟩
end Go.Proofs.YtajcbppndkkbpaaGreatDoor
