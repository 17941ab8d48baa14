/- Contracts of the marking of calendars. No conditions but that a calendar has at most 2^20 months and rules. -/
import Derived.Test.YthjldjbblaioaaaCalKit
import Derived.Test.YthjldjbblaioaaaLawKit
import Derived.Laws.IdiomStrings
namespace Go.Proofs.Ythjldjbblaioaaa
open Go.RowKit
set_option linter.unusedVariables false
set_option linter.unusedSimpArgs false
theorem byte48 {x : Int} (h0 : 0 ≤ x) (h1 : x < 10) : ((UInt8.ofNat (48 + x.toNat)).toNat : Int) = 48 + x := by
  rw [UInt8.toNat_ofNat']
  omega
theorem str1_size (b : UInt8) : ((⟨#[b]⟩ : ByteArray)).size = 1 := rfl
theorem str_app_size (a b : ByteArray) : (a ++ b).size = a.size + b.size := by simp
def MarkT (w : World) (e : Ending) (w' : World) : Prop := ∃ s : ByteArray, e = .returned (.string s) ∧ Below w.heap.size w w'
set_option maxRecDepth 10000 in
set_option maxHeartbeats 2000000 in
theorem markText_any (k : Int) (w : World) (h0 : 0 ≤ k) (h1 : k ≤ 1000000000000) :
    Calls Try.prog 119 #[.int .i64 k] w fun e w' => MarkT w e w' := by
  by_cases hk : k ≤ 0
  · go_enter Try.func119, Try.ntmps119
    go_wp2
    go_ret
    exact ⟨_, rfl, Below.refl _ _⟩
  · go_enter Try.func119, Try.ntmps119
    go_wp2
    go_loopw [0, 3] (fun t u wr => ∃ (j : Int) (s : ByteArray), t = .int .i64 j ∧ u = .string s ∧ 0 ≤ j ∧ (s.size : Int) + j ≤ k ∧ Hid (Below w.heap.size w wr)) (fun t _ _ => (intOf t).toNat)
    case atStart => exact ⟨k, ⟨#[]⟩, rfl, rfl, h0, by show ((0 : Nat) : Int) + k ≤ k; omega, Lib.hid (Below.refl _ _)⟩
    case round =>
      obtain ⟨j, s, rfl, rfl, hj0, hjs, HB⟩ := hrel
      have s0 : (0 : Int) ≤ (s.size : Int) := Int.natCast_nonneg _
      by_cases hj : 0 < j
      · have t1 : j.tmod 10 = j % 10 := Int.tmod_eq_emod_of_nonneg (by omega)
        have t2 : j.tdiv 10 = j / 10 := Int.tdiv_eq_ediv_of_nonneg (by omega)
        obtain ⟨x, hx⟩ : ∃ x, j % 10 = x := ⟨_, rfl⟩
        obtain ⟨q, hq⟩ : ∃ q, j / 10 = q := ⟨_, rfl⟩
        have x0 : 0 ≤ x := by omega
        have x1 : x < 10 := by omega
        have q0 : 0 ≤ q := by omega
        have q1 : q < j := by omega
        have hcv0 := run_convert_bytes_back (P := Try.prog) (wr.alloc (.cells #[.int .u8 (48 + x)] 5)) 22 9 5 ⟨wr.heap.size, 0, none⟩ 1 [UInt8.ofNat (48 + x.toNat)] Try.underlying22 Try.underlying5 Try.underlying9 (fun i hi => by
          obtain rfl : i = 0 := by simpa using hi
          have e : (⟨wr.heap.size, 0, none⟩ : Addr).add 0 = ⟨wr.heap.size, 0, none⟩ := by unfold Addr.add; split <;> simp_all
          rw [e, show ([UInt8.ofNat (48 + x.toNat)][0]'hi) = UInt8.ofNat (48 + x.toNat) from rfl, byte48 x0 x1]
          simp [go_sem])
        have hcv : (convert 22 9 (.slice (some ⟨wr.heap.size, 0, none⟩) 1 1)).run Try.prog (wr.alloc (.cells #[.int .u8 (48 + x)] 5)) = .ok (.string ⟨#[UInt8.ofNat (48 + x.toNat)]⟩) (wr.alloc (.cells #[.int .u8 (48 + x)] 5)) := hcv0
        clear hcv0
        have zb : ((⟨#[UInt8.ofNat (48 + x.toNat)]⟩ : ByteArray)).size = 1 := rfl
        obtain ⟨sb, hsb⟩ : ∃ sb : ByteArray, (⟨#[UInt8.ofNat (48 + x.toNat)]⟩ : ByteArray) = sb := ⟨_, rfl⟩
        rw [hsb] at hcv zb
        clear hsb
        have zl : ¬ (9223372036854775807 < sb.size + s.size) := by omega
        have r2 : IntKind.i64.wrap (48 + x) = 48 + x := IntWalk.i64_in _ (by omega)
        have r3 : IntKind.u8.wrap (48 + x) = 48 + x := by rw [IntKind.wrap_u8]; omega
        have r6 : (48 + x) % 256 = 48 + x := by omega
        rw [hx] at t1
        rw [hq] at t2
        clear hx hq
        go_wp2
        go_roundw
        case rel => exact ⟨q, _, by first | rfl | go_num, rfl, q0, by rw [str_app_size]; push_cast; omega, Lib.hid (HB.out.alloc HB.out.size _)⟩
        case measure => simp [intOf]; omega
      · have zl : ¬ (9223372036854775807 < 1 + s.size) := by omega
        go_wp2
        go_ret
        exact ⟨_, rfl, HB.out⟩
theorem row_cell {w : World} {base sz g n c j : Nat} {T : TypeId} {xs : List Value} (h : w.ownsRow base T sz (.slice (some ⟨g, 0, none⟩) n c) n xs) (hj : j < n * sz) : ∃ v, w.cell? ⟨g, j, none⟩ = some v := by
  rw [World.ownsRow.cellAt h j hj]
  have := h.1
  exact ⟨xs[j]'(by omega), List.getElem?_eq_getElem _⟩
theorem row_lt {w : World} {base sz g n c : Nat} {T : TypeId} {xs : List Value} (h : w.ownsRow base T sz (.slice (some ⟨g, 0, none⟩) n c) n xs) : g < w.heap.size := by
  rcases h.2 with ⟨h0, _⟩ | ⟨g2, cap, cur, e2, hb2, hg, hr⟩
  · simp at h0
  · injection e2 with e3
    injection e3 with e3
    injection e3 with e3
    subst e3
    exact (Array.getElem?_eq_some_iff.1 hg).1
set_option maxHeartbeats 2000000 in
theorem markMonthS_any (g n c base : Nat) (xs : List Value) (k : Int) (w : World) (h : w.ownsRow base 106 3 (.slice (some ⟨g, 0, none⟩) n c) n xs) (hn : n ≤ 1048576) (hk0 : 0 ≤ k) (hk1 : k ≤ 10000000) :
    Calls Try.prog 70 #[.slice (some ⟨g, 0, none⟩) n c, .int .i64 k] w fun e w' => e = .returned (.int .i64 (k + 3 * n)) ∧ w.grownBy w' (some g) := by
  have H := Lib.hid h
  clear h
  go_enter Try.func70, Try.ntmps70
  go_wp2
  go_loopw [1, 5] (fun s t wr => ∃ (i : Nat) (ys : List Value), s = .int .i64 (k + 3 * i) ∧ t = .int .i64 i ∧ i ≤ n ∧ Hid (wr.ownsRow base 106 3 (.slice (some ⟨g, 0, none⟩) n c) n ys) ∧ Hid (w.grownBy wr (some g))) (fun _ t _ => n - (intOf t).toNat)
  case atStart => exact ⟨0, xs, by simp, rfl, Nat.zero_le _, H, Lib.hid (World.grownBy.refl _ _)⟩
  case round =>
    obtain ⟨i, ys, rfl, rfl, hi, ho, hG⟩ := hrel
    clear H
    have i0 : (0 : Int) ≤ (i : Int) := Int.natCast_nonneg _
    by_cases hlt : i < n
    · have i1 : (i : Int) < (n : Int) := by omega
      have hin : (i : Int) ≤ 1048576 := by omega
      have zg := row_lt ho.out
      go_wp2_with (first | (go_at_call 119; refine (markText_any _ _ (by omega) (by omega)).mono ?_; rintro e w2 ⟨s, rfl, hb2⟩; have HO2 := Lib.hid (own_call ho.out hb2); have HG2 := Lib.hid (only_below hG.out hb2); obtain ⟨v0, c0⟩ := row_cell HO2.out (j := i * 3) (by omega); obtain ⟨v1, c1⟩ := row_cell HO2.out (j := i * 3 + 1) (by omega); obtain ⟨v2, c2⟩ := row_cell HO2.out (j := i * 3 + 2) (by omega); have f0 := World.ownsRow.frozenAt HO2.out (i * 3); have f1 := World.ownsRow.frozenAt HO2.out (i * 3 + 1); have f2 := World.ownsRow.frozenAt HO2.out (i * 3 + 2); clear hb2) | fail)
      go_roundw
      case rel =>
        have S1 := World.ownsRow.stored HO2.out (i * 3) (.string s)
        have S2 := World.ownsRow.stored S1.1 (i * 3 + 1) (.int .i64 (k + 3 * i + 1))
        have S3 := World.ownsRow.stored S2.1 (i * 3 + 2) (.int .i64 (k + 3 * i + 1 + 1))
        exact ⟨i + 1, _, by congr 1; push_cast; omega, by go_num, by omega, Lib.hid S3.1, Lib.hid (((HG2.out.trans S1.2).trans S2.2).trans S3.2)⟩
      case measure => simp [intOf]; omega
    · have HE := Lib.hid (show i = n by omega)
      go_wp2
      go_ret
      exact ⟨by rw [HE.out]; rfl, hG.out⟩
set_option maxHeartbeats 2000000 in
theorem markLeapRuleS_any (g n c base : Nat) (xs : List Value) (k : Int) (w : World) (h : w.ownsRow base 132 3 (.slice (some ⟨g, 0, none⟩) n c) n xs) (hn : n ≤ 1048576) (hk0 : 0 ≤ k) (hk1 : k ≤ 10000000) :
    Calls Try.prog 71 #[.slice (some ⟨g, 0, none⟩) n c, .int .i64 k] w fun e w' => e = .returned (.int .i64 (k + 3 * n)) ∧ w.grownBy w' (some g) := by
  have H := Lib.hid h
  clear h
  go_enter Try.func71, Try.ntmps71
  go_wp2
  go_loopw [1, 5] (fun s t wr => ∃ (i : Nat) (ys : List Value), s = .int .i64 (k + 3 * i) ∧ t = .int .i64 i ∧ i ≤ n ∧ Hid (wr.ownsRow base 132 3 (.slice (some ⟨g, 0, none⟩) n c) n ys) ∧ Hid (w.grownBy wr (some g))) (fun _ t _ => n - (intOf t).toNat)
  case atStart => exact ⟨0, xs, by simp, rfl, Nat.zero_le _, H, Lib.hid (World.grownBy.refl _ _)⟩
  case round =>
    obtain ⟨i, ys, rfl, rfl, hi, ho, hG⟩ := hrel
    clear H
    have i0 : (0 : Int) ≤ (i : Int) := Int.natCast_nonneg _
    by_cases hlt : i < n
    · have i1 : (i : Int) < (n : Int) := by omega
      have hin : (i : Int) ≤ 1048576 := by omega
      obtain ⟨v0, c0⟩ := row_cell ho.out (j := i * 3) (by omega)
      obtain ⟨v1, c1⟩ := row_cell ho.out (j := i * 3 + 1) (by omega)
      obtain ⟨v2, c2⟩ := row_cell ho.out (j := i * 3 + 2) (by omega)
      have f0 := World.ownsRow.frozenAt ho.out (i * 3)
      have f1 := World.ownsRow.frozenAt ho.out (i * 3 + 1)
      have f2 := World.ownsRow.frozenAt ho.out (i * 3 + 2)
      go_wp2
      go_roundw
      case rel =>
        have S1 := World.ownsRow.stored ho.out (i * 3) (.int .i64 (k + 3 * i))
        have S2 := World.ownsRow.stored S1.1 (i * 3 + 1) (.int .i64 (k + 3 * i + 1))
        have S3 := fun v => World.ownsRow.stored S2.1 (i * 3 + 2) (.bool v)
        exact ⟨i + 1, _, by congr 1; push_cast; omega, by go_num, by omega, Lib.hid (S3 _).1, Lib.hid (((hG.out.trans S1.2).trans S2.2).trans (S3 _).2)⟩
      case measure => simp [intOf]; omega
    · have HE := Lib.hid (show i = n by omega)
      go_wp2
      go_ret
      exact ⟨by rw [HE.out]; rfl, hG.out⟩
/-- a writing that keeps what lies outside lo..hi -/
structure Outer (w w' : World) (lo hi : Nat) : Prop where
  os : w'.os = w.os
  tape : w'.tape = w.tape
  output : w'.output = w.output
  size : w.heap.size ≤ w'.heap.size
  block : ∀ b, b < w.heap.size → (b < lo ∨ hi ≤ b) → w'.heap[b]? = w.heap[b]?
theorem Outer.of_grown {w w' : World} {lo hi g : Nat} (h : w.grownBy w' (some g)) (h1 : lo ≤ g) (h2 : g < hi) : Outer w w' lo hi :=
  ⟨h.os, h.tape, h.output, h.size, fun b hb ho => h.block b hb (fun e => by have := Option.some.inj e; omega)⟩
theorem Outer.of_below {w w' : World} {lo hi : Nat} (h : Below w.heap.size w w') : Outer w w' lo hi := ⟨h.os, h.tape, h.output, h.size, fun b hb _ => h.block b hb⟩
theorem Outer.trans {w w' w2 : World} {lo hi : Nat} (h : Outer w w' lo hi) (h2 : Outer w' w2 lo hi) : Outer w w2 lo hi :=
  ⟨h2.os.trans h.os, h2.tape.trans h.tape, h2.output.trans h.output, Nat.le_trans h.size h2.size, fun b hb ho => (h2.block b (Nat.lt_of_lt_of_le hb h.size) ho).trans (h.block b hb ho)⟩
theorem Outer.below {a w w' : World} {lo hi : Nat} (h : Outer w w' lo hi) (hb : Below a.heap.size a w) (hl : a.heap.size ≤ lo) : Below a.heap.size a w' :=
  ⟨h.os.trans hb.os, h.tape.trans hb.tape, h.output.trans hb.output, Nat.le_trans hb.size h.size, fun b hb2 => (h.block b (Nat.lt_of_lt_of_le hb2 hb.size) (.inl (by omega))).trans (hb.block b hb2)⟩
set_option maxHeartbeats 2000000 in
theorem markCalendar_any (nm : ByteArray) (g g' n n' lo hi : Nat) (ms rs : List T3) (we k : Int) (w : World) (h : Own2 w lo hi g g' n n' ms rs) (hn : n ≤ 1048576) (hn' : n' ≤ 1048576) (hk0 : 0 ≤ k) (hk1 : k ≤ 1000) :
    Calls Try.prog 20 #[.agg #[.string nm, .slice (some ⟨g, 0, none⟩) n n, .slice (some ⟨g', 0, none⟩) n' n', .int .i64 we], .int .i64 k] w fun e w' => e = .returned (.int .i64 (k + 3 * n + 3 * n')) ∧ Outer w w' lo hi := by
  have H := Lib.hid (h.call ((Below.refl _ _).alloc (Nat.le_refl _) (.cells #[.string nm, .slice (some ⟨g, 0, none⟩) n n, .slice (some ⟨g', 0, none⟩) n' n', .int .i64 we] 27)))
  have hz := h.sz
  have l1 := h.lo_
  have l2 := h.mid
  have l3 := h.hi_
  have HC := Lib.hid (cal_new w 27 nm (some ⟨g, 0, none⟩) (some ⟨g', 0, none⟩) n n' n n' we)
  clear h
  go_enter Try.func20, Try.ntmps20
  go_wp2_with fail
  refine (markMonthS_any g n n lo (flat ms) k _ H.out.m hn hk0 (by omega)).mono ?_
  rintro e w1 ⟨rfl, hg1⟩
  have C1 := HC.out.grown hg1 (by omega)
  have p2 := C1.c2
  have H1 := Lib.hid (Own3.block H.out.r (hg1.block _ (by simp; omega) (fun e => by have := Option.some.inj e; omega)))
  have O1 : Outer w w1 lo hi := (Outer.of_below ((Below.refl _ _).alloc (Nat.le_refl _) _)).trans (Outer.of_grown hg1 l1 (by omega))
  clear hg1 C1
  go_wp2_with fail
  refine (markLeapRuleS_any g' n' n' (g + 1) (flat rs) _ _ H1.out hn' (by omega) (by omega)).mono ?_
  rintro e w2 ⟨rfl, hg2⟩
  have O2 := O1.trans (Outer.of_grown hg2 (by omega) l3)
  go_wp2
  go_ret
  exact ⟨rfl, O2⟩
end Go.Proofs.Ythjldjbblaioaaa
