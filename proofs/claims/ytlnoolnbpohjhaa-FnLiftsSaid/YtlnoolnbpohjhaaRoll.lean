/- Numbers that the laws draw from bytes of their own (f6roll, below), and the search in a list (f6has). No conditions but that there are at most 4096 bytes. -/
import Derived.Test.YtlnoolnbpohjhaaSrcOwn
import Derived.Test.YtlnoolnbpohjhaaOpenBytes
namespace Go.Proofs.Ytlnoolnbpohjhaa
open Go.RowKit
set_option linter.unusedVariables false
set_option linter.unusedSimpArgs false
set_option maxHeartbeats 400000 in
theorem f6big_any (A : Option Addr) (n c : Nat) (w : World) (hn : n ≤ 9223372036854775807) :
    Calls Try.prog 5 #[.slice A n c] w fun e w' => e = .returned (.bool (decide ((4096 : Int) < n))) ∧ w = w' := by
  go_enter Try.func5, Try.ntmps5
  go_wp2
  go_ret
  exact ⟨rfl, rfl⟩
theorem any_take {zs : List Int} {x : Int} {k n : Nat} (h : ∀ j, j < k → zs.getD j 0 ≠ x) (hk : k = n) (hl : zs.length = n) : decide (x ∈ zs) = false := by
  subst hk
  simp only [decide_eq_false_iff_not]
  intro hm
  obtain ⟨j, hj, e⟩ := List.mem_iff_getElem.1 hm
  exact h j (by omega) (by rw [getD_of hj]; exact e)
set_option maxHeartbeats 1000000 in
theorem f6has_any (A : Option Addr) (n c B : Nat) (zs : List Int) (x : Int) (w : World) (h : Ints w B A n zs) (hn : n ≤ 9223372036854775807) :
    Calls Try.prog 15 #[.slice A n c, .int .i64 x] w fun e w' => e = .returned (.bool (decide (x ∈ zs))) ∧ w = w' := by
  have HL := Lib.hid h.len
  have H := Lib.hid h
  clear h
  go_enter Try.func15, Try.ntmps15
  go_wp2
  go_loop [5] (fun t => ∃ k : Nat, t = .int .i64 k ∧ k ≤ n ∧ Hid (∀ j, j < k → zs.getD j 0 ≠ x)) (fun t => n - (intOf t).toNat)
  case atStart => exact ⟨0, rfl, Nat.zero_le _, Lib.hid (fun j hj => absurd hj (by omega))⟩
  case round =>
    obtain ⟨k, rfl, hk, hj⟩ := hrel
    by_cases hlt : k < n
    · obtain ⟨b, off, rfl, hbl, hc⟩ := H.out.at_ hlt
      obtain ⟨y, hy⟩ : ∃ y, zs.getD k 0 = y := ⟨_, rfl⟩
      rw [hy] at hc
      have HY := Lib.hid hy
      clear hy
      by_cases e : y = x
      · have HM := Lib.hid (show decide (x ∈ zs) = true by
          rw [decide_eq_true_eq, ← e, ← HY.out, getD_of (by rw [HL.out]; exact hlt)]; exact List.getElem_mem _)
        subst e
        go_wp2
        go_ret
        exact ⟨ret_bool HM.out.symm, rfl⟩
      · have hb : (y == x) = false := by simpa using e
        go_wp2
        go_round
        case rel =>
          refine ⟨k + 1, by go_num, by omega, Lib.hid (fun j hj2 => ?_)⟩
          by_cases e2 : j = k
          · subst e2; rw [HY.out]; exact e
          · exact hj.out j (by omega)
        case measure => simp [intOf]; omega
    · have HM := Lib.hid (any_take hj.out (show k = n by omega) HL.out)
      go_wp2
      go_ret
      exact ⟨ret_bool HM.out.symm, rfl⟩
theorem Byts.wide {w : World} {B B' n : Nat} {A : Option Addr} (h : Byts w B A n) (hB : B ≤ B') : Byts w B' A n := fun hn => by
  obtain ⟨b, off, e, hb, hc⟩ := h hn
  exact ⟨b, off, e, by omega, hc⟩
/-- the dice in block g -/
def Dice (w : World) (g : Nat) (A : Option Addr) (n c : Nat) : Prop :=
  ∃ x s : Int, w.cell? ⟨g, 0, none⟩ = some (.slice A n c) ∧ w.cell? ⟨g, 1, none⟩ = some (.int .i64 x) ∧ 0 ≤ x ∧ x ≤ n ∧ w.cell? ⟨g, 2, none⟩ = some (.int .u64 s) ∧ ∀ o, w.frozen? ⟨g, o, none⟩ = false
theorem low24 (s : Int) : ∃ y : Int, 0 ≤ y ∧ y ≤ 16777215 ∧ wrap64 (bits .and .u64 (IntKind.u64.wrap s / 8589934592) 16777215) = y := by
  have h0 : 0 ≤ IntKind.u64.wrap s ∧ IntKind.u64.wrap s < 18446744073709551616 := by rw [IntKind.wrap_u64]; omega
  generalize IntKind.u64.wrap s = u at *
  have h := bits_mask .u64 63 (by decide) u64_in 24 (by decide) (u / 8589934592) (by omega) (by omega)
  have e : ((2 : Int) ^ 24 - 1) = 16777215 := by decide
  have e2 : ((2 : Int) ^ 24) = 16777216 := by decide
  rw [e, e2] at h
  rw [h]
  exact ⟨_, by unfold wrap64; omega, by unfold wrap64; omega, rfl⟩
set_option maxHeartbeats 2000000 in
theorem f6roll_any (A : Option Addr) (n c : Nat) (s : Int) (w : World) (hb : Byts w w.heap.size A n) (hn : n ≤ 4096) :
    Calls Try.prog 20 #[.slice A n c, .int .u64 s] w fun e w' => ∃ g, e = .returned (.pointer (some ⟨g, 0, none⟩)) ∧ Dice w' g A n c ∧ w.heap.size ≤ g ∧ Below w.heap.size w w' := by
  have HB := Lib.hid hb
  clear hb
  go_enter Try.func20, Try.ntmps20
  go_wp2
  go_loopw [6] (fun t wr => ∃ k : Nat, t = .int .i64 (k : Int) ∧ k ≤ n ∧ Below w.heap.size w wr ∧ w.heap.size < wr.heap.size ∧ wr.cell? ⟨w.heap.size, 0, none⟩ = some (.slice A n c) ∧ wr.cell? ⟨w.heap.size, 1, none⟩ = some (.int .i64 0) ∧ (∃ s : Int, wr.cell? ⟨w.heap.size, 2, none⟩ = some (.int .u64 s)) ∧ ∀ o, wr.frozen? ⟨w.heap.size, o, none⟩ = false) (fun t _ => n - (intOf t).toNat)
  case atStart => exact ⟨0, rfl, by omega, by (repeat (first | with_reducible exact Below.refl _ _ | with_reducible refine below_alloc ?_ _ | with_reducible refine below_drewN ?_ _ | with_reducible refine Below.drew ?_ | ((with_reducible refine below_set ?_ ?_ _); rotate_left; (focus (first | (simp; done) | (simp; omega) | omega))) | with_reducible refine below_call ?_ (by assumption))), by simp, by simp [go_sem], by simp [go_sem], ⟨_, by simp [go_sem]; rfl⟩, fun o => by simp [go_sem]⟩
  case round =>
    obtain ⟨k, rfl, hk, hB, hz, h0, h1, ⟨s, h2⟩, hf⟩ := hrel
    by_cases hlt : k < n
    · obtain ⟨b, off, rfl, hbl, hc⟩ := HB.out (by omega)
      obtain ⟨x, x0, x1, hx⟩ := hc k hlt
      have hxr : wr.cell? ⟨b, off + k, none⟩ = some (.int .u8 x) := (hB.cell (by simpa using hbl)).trans hx
      have r1 : (0 : Int) ≤ (k : Int) := Int.natCast_nonneg _
      have r2 : (k : Int) < (n : Int) := by omega
      clear hx hc
      go_wp2
      go_region
      all_goals
        go_wp2
        go_roundw
        case rel => exact ⟨k + 1, by go_num, by omega, by (repeat (first | with_reducible exact hB | with_reducible refine below_alloc ?_ _ | with_reducible refine below_drewN ?_ _ | with_reducible refine Below.drew ?_ | ((with_reducible refine below_set ?_ ?_ _); rotate_left; (focus (first | (simp; done) | (simp; omega) | omega))))), by simpa using hz, by simp [go_sem, *], by simp [go_sem, *], ⟨_, by simp [go_sem, *]; rfl⟩, fun o => by simp [go_sem, hf o]⟩
        case measure => simp [intOf]; omega
    · go_wp2
      go_ret
      exact ⟨w.heap.size, rfl, ⟨0, s, h0, h1, by omega, by omega, h2, hf⟩, Nat.le_refl _, hB⟩
set_option maxHeartbeats 2000000 in
theorem below_any (A : Option Addr) (n c g B : Nat) (m : Int) (w : World) (h : Dice w g A n c) (hb : Byts w B A n) (hB : B ≤ g) (hn : n ≤ 4096) (hm : 1 ≤ m) (hm2 : m ≤ 1000000000) :
    Calls Try.prog 21 #[.pointer (some ⟨g, 0, none⟩), .int .i64 m] w fun e w' => (∃ x : Nat, e = .returned (.int .i64 (x : Int)) ∧ (x : Int) < m) ∧ w.grownBy w' (some g) := by
  obtain ⟨x, s, q0, q1, h0, h1, q2, qf⟩ := h
  have QF := Lib.hid qf
  have HB := Lib.hid hb
  clear hb
  have hfin : ∀ y : Int, 0 ≤ y → ∃ z : Nat, y.tmod m = (z : Int) ∧ (z : Int) < m := fun y hy => by
    rw [Int.tmod_eq_emod_of_nonneg hy]
    have e0 := Int.emod_nonneg y (show m ≠ 0 by omega)
    have e1 := Int.emod_lt_of_pos y (show 0 < m by omega)
    obtain ⟨z, hz⟩ := Int.eq_ofNat_of_zero_le e0
    exact ⟨z, hz, by omega⟩
  have HF := Lib.hid hfin
  have n0 : (m == 0) = false := by rw [beq_eq_false_iff_ne]; omega
  have n2 : ¬ (m = 0) := by omega
  clear hfin
  obtain ⟨y, y0, y1, hy⟩ := low24 (IntKind.u64.wrap (s * 6364136223846793005) + 1442695040888963407)
  by_cases hx : x < n
  · obtain ⟨k, rfl⟩ := Int.eq_ofNat_of_zero_le h0
    obtain ⟨b, off, rfl, hbl, hc⟩ := HB.out (by omega)
    obtain ⟨v, v0, v1, hv⟩ := hc k (by omega)
    obtain ⟨z, hz, hzm⟩ := HF.out (y + v) (by omega)
    have HZ := Lib.hid hz
    have hne : b ≠ g := by omega
    have hx1 : (k : Int) + 1 ≤ n := by omega
    have q1 : wrap64 (y + v) = y + v := by unfold wrap64; omega
    have HY := Lib.hid hy
    clear hc hz hy
    go_enter Try.func21, Try.ntmps21
    go_wp2
    go_quiet (fail)
    go_wp2
    go_quiet (fail)
    go_wp2
    go_ret
    exact ⟨⟨z, by simp only [HY.out, q1, HZ.out]; rfl, hzm⟩, by (repeat (first | with_reducible exact World.grownBy.refl _ _ | with_reducible refine only_alloc ?_ _ | with_reducible refine only_drewN ?_ _ | with_reducible refine only_drew ?_ | ((with_reducible refine only_setCell ?_ ?_ _); rotate_left; (focus (first | exact .inl rfl | (left; simp; done) | (right; simp; done) | (right; simp; omega)))) | with_reducible refine World.grownBy.trans ?_ (by assumption) | with_reducible refine only_below ?_ (by assumption)))⟩
  · have hx1 : ¬ (x + 1 ≤ (n : Int)) := by omega
    obtain ⟨z, hz, hzm⟩ := HF.out y (by omega)
    have HZ := Lib.hid hz
    have HY := Lib.hid hy
    clear hz hy
    go_enter Try.func21, Try.ntmps21
    go_wp2
    go_quiet (fail)
    go_wp2
    go_ret
    exact ⟨⟨z, by simp only [HY.out, HZ.out]; rfl, hzm⟩, by (repeat (first | with_reducible exact World.grownBy.refl _ _ | with_reducible refine only_alloc ?_ _ | with_reducible refine only_drewN ?_ _ | with_reducible refine only_drew ?_ | ((with_reducible refine only_setCell ?_ ?_ _); rotate_left; (focus (first | exact .inl rfl | (left; simp; done) | (right; simp; done) | (right; simp; omega)))) | with_reducible refine World.grownBy.trans ?_ (by assumption) | with_reducible refine only_below ?_ (by assumption)))⟩
end Go.Proofs.Ytlnoolnbpohjhaa
