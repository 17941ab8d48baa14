/- Words for slices of int64 that are read or owned, and the contracts of the laws' own helpers on them. No conditions but that a slice has at most 2^20 elements where it is copied. -/
import Derived.Test.YthjldjbblaioaaaBase
import Derived.OwnWalk
import Derived.Laws.OwnMore
import Derived.Laws.MakeOwn
import Derived.Maps.AppendAt
namespace Go.Proofs.Ythjldjbblaioaaa
open Go.RowKit
set_option linter.unusedVariables false
set_option linter.unusedSimpArgs false

/-- the slice at A of n elements reads as zs; its cells lie below block B -/
def Ints (w : World) (B : Nat) (A : Option Addr) (n : Nat) (zs : List Int) : Prop :=
  zs.length = n ∧ (0 < n → ∃ b off, A = some ⟨b, off, none⟩ ∧ b < B ∧ ∀ j, j < n → w.cell? ⟨b, off + j, none⟩ = some (.int .i64 (zs.getD j 0)))
/-- the slice A of n elements is the call's own: it lies in a block from 'base' on, may be written, and reads as zs -/
def Own (w : World) (base : Nat) (A : Option Addr) (n c : Nat) (zs : List Int) : Prop := w.ownsRow base 2 1 (.slice A n c) n (zs.map (Value.int .i64))

section
variable {w w' : World} {B B' n c base : Nat} {A : Option Addr} {zs : List Int}
theorem Ints.len (h : Ints w B A n zs) : zs.length = n := h.1
theorem Ints.at_ (h : Ints w B A n zs) {k : Nat} (hk : k < n) : ∃ b off, A = some ⟨b, off, none⟩ ∧ b < B ∧ w.cell? ⟨b, off + k, none⟩ = some (.int .i64 (zs.getD k 0)) := by
  obtain ⟨b, off, e, hb, hc⟩ := h.2 (by omega)
  exact ⟨b, off, e, hb, hc k hk⟩
theorem Ints.keep (h : Ints w B A n zs) (hk : ∀ p : Addr, p.block < B → w'.cell? p = w.cell? p) : Ints w' B A n zs :=
  ⟨h.1, fun hn => by
    obtain ⟨b, off, e, hb, hc⟩ := h.2 hn
    exact ⟨b, off, e, hb, fun j hj => (hk _ hb).trans (hc j hj)⟩⟩
theorem Ints.more (h : Ints w B A n zs) (hB : B ≤ B') : Ints w B' A n zs :=
  ⟨h.1, fun hn => by
    obtain ⟨b, off, e, hb, hc⟩ := h.2 hn
    exact ⟨b, off, e, by omega, hc⟩⟩
theorem Ints.below (h : Ints w B A n zs) (hb : Below B w w') : Ints w' B A n zs := h.keep fun _ hp => hb.cell hp
theorem Ints.call (h : Ints w B A n zs) (hB : B ≤ w.heap.size) (hb : Below w.heap.size w w') : Ints w' B A n zs := h.keep fun _ hp => hb.cell (by omega)
theorem Ints.alloc (h : Ints w B A n zs) (hB : B ≤ w.heap.size) (o : Obj) : Ints (w.alloc o) B A n zs := h.keep fun p hp => World.cell?_alloc_lt w o p (by omega)
theorem Ints.setCell (h : Ints w B A n zs) {p : Addr} (hB : B ≤ p.block) (u : Value) : Ints (w.setCell p u) B A n zs :=
  h.keep fun q hq => World.cell?_setCell_other w p q u (fun e => by subst e; omega)
theorem Ints.drewN (h : Ints w B A n zs) (k : Nat) : Ints (w.drewN k) B A n zs := h
theorem Ints.drew (h : Ints w B A n zs) : Ints w.drew B A n zs := h
theorem Own.len (h : Own w base A n c zs) : zs.length = n := by simpa using h.1
theorem Own.form (h : Own w base A n c zs) : (A = none ∧ n = 0 ∧ c = 0) ∨ ∃ g, A = some ⟨g, 0, none⟩ ∧ base ≤ g ∧ g < w.heap.size := by
  rcases h.2 with ⟨e, h0⟩ | ⟨g, cap, cur, e, hb, hh, _⟩
  · injection e with e1 e2 e3; exact .inl ⟨e1, h0, e3⟩
  · injection e with e1 e2 e3; exact .inr ⟨g, e1, hb, (Array.getElem?_eq_some_iff.1 hh).1⟩
theorem Own.ints (h : Own w base A n c zs) (hB : w.heap.size ≤ B) : Ints w B A n zs := by
  refine ⟨h.len, fun hn => ?_⟩
  rcases h.form with ⟨_, h0, _⟩ | ⟨g, rfl, _, hlt⟩
  · omega
  · refine ⟨g, 0, rfl, by omega, fun j hj => ?_⟩
    have h2 : w.ownsRow base 2 1 (.slice (some ⟨g, 0, none⟩) n c) n (zs.map (Value.int .i64)) := h
    rw [Nat.zero_add, World.ownsRow.cellAt h2 j (by omega)]
    have hl := h.len
    simp [List.getElem?_map, List.getElem?_eq_getElem (show j < zs.length by omega)]
theorem Own.block (h : Own w base A n c zs) (hk : ∀ b, base ≤ b → b < w.heap.size → w'.heap[b]? = w.heap[b]?) : Own w' base A n c zs := by
  refine ⟨h.1, ?_⟩
  rcases h.2 with h0 | ⟨g, cap, cur, e, hb, hh, hr⟩
  · exact .inl h0
  · exact .inr ⟨g, cap, cur, e, hb, by rw [hk g hb (Array.getElem?_eq_some_iff.1 hh).1]; exact hh, hr⟩
theorem Own.call (h : Own w base A n c zs) (hb : Below w.heap.size w w') : Own w' base A n c zs := h.block fun b _ hl => hb.block b hl
theorem Own.alloc (h : Own w base A n c zs) (o : Obj) : Own (w.alloc o) base A n c zs := World.ownsRow.alloc h o
theorem Own.drewN (h : Own w base A n c zs) (k : Nat) : Own (w.drewN k) base A n c zs := h
theorem Own.drew (h : Own w base A n c zs) : Own w.drew base A n c zs := h
theorem Own.low (h : Own w base A n c zs) {b0 : Nat} (hb : b0 ≤ base) : Own w b0 A n c zs := by
  refine ⟨h.1, ?_⟩
  rcases h.2 with h0 | ⟨g, cap, cur, e, hb', hr⟩
  · exact .inl h0
  · exact .inr ⟨g, cap, cur, e, by omega, hr⟩
/-- a store into a block that is not the row's -/
theorem Own.far (h : Own w base A n c zs) {p : Addr} (hp : p.block < base) (u : Value) : Own (w.setCell p u) base A n c zs := h.block fun b hb _ => Below.heap_setCell w p u b (by omega)
theorem Own.nil_ : Own w base none 0 0 [] := World.ownsRow_nil w base _ 1
end

theorem info_int64 : (Try.prog.info? 2).map (fun i => (i.zero, i.size, i.bytes)) = some (some (.int .i64 0), 1, 8) := by kernel_rfl

theorem getD_of {zs : List Int} {k : Nat} (h : k < zs.length) : zs.getD k 0 = zs[k] := by simp [List.getD, List.getElem?_eq_getElem h]
theorem list_eq_of {zs ys : List Int} (hl : zs.length = ys.length) (h : ∀ j, j < zs.length → zs.getD j 0 = ys.getD j 0) : zs = ys := by
  apply List.ext_getElem hl
  intro j h1 h2
  have := h j h1
  rwa [getD_of h1, getD_of h2] at this
set_option maxHeartbeats 1000000 in
theorem eqInt64S_any (A A' : Option Addr) (n n' c c' B B' : Nat) (zs ys : List Int) (w : World) (h : Ints w B A n zs) (h' : Ints w B' A' n' ys) (hn : n ≤ 9223372036854775807) (hn' : n' ≤ 9223372036854775807) :
    Calls Try.prog 18 #[.slice A n c, .slice A' n' c'] w fun e w' => e = .returned (.bool (decide (zs = ys))) ∧ ∃ m, w' = w.drewN m := by
  have hl := h.len
  have hl' := h'.len
  have H := Lib.hid h
  have H' := Lib.hid h'
  clear h h'
  by_cases hnn : n = n'
  · subst hnn
    have HL := Lib.hid (hl.trans hl'.symm)
    have HL0 := Lib.hid hl
    clear hl hl'
    go_enter Try.func18, Try.ntmps18
    go_wp2
    go_loopw [5] (fun t wr => ∃ k m : Nat, t = .int .i64 k ∧ k ≤ n ∧ Hid (∀ j, j < k → zs.getD j 0 = ys.getD j 0) ∧ wr = w.drewN m) (fun t _ => n - (intOf t).toNat)
    case atStart => exact ⟨0, 0, rfl, Nat.zero_le _, Lib.hid (fun j hj => absurd hj (by omega)), rfl⟩
    case round =>
      obtain ⟨k, m, rfl, hk, hj, rfl⟩ := hrel
      by_cases hlt : k < n
      · obtain ⟨b, off, rfl, hbl, hc⟩ := H.out.at_ hlt
        obtain ⟨b', off', rfl, hbl', hc'⟩ := H'.out.at_ hlt
        obtain ⟨x, hx⟩ : ∃ x, zs.getD k 0 = x := ⟨_, rfl⟩
        obtain ⟨y, hy⟩ : ∃ y, ys.getD k 0 = y := ⟨_, rfl⟩
        rw [hx] at hc
        rw [hy] at hc'
        have HX := Lib.hid hx
        have HY := Lib.hid hy
        clear hx hy
        have i0 : (0 : Int) ≤ (k : Int) := Int.natCast_nonneg _
        have i1 : (k : Int) < (n : Int) := by omega
        by_cases hxy : x = y
        · subst hxy
          have hne : (x != x) = false := by simp
          go_wp2
          go_quiet (fail)
          go_wp2
          go_roundw
          case rel =>
            refine ⟨k + 1, m + nq, by go_num, by omega, Lib.hid (fun j hj2 => ?_), by first | rfl | simp [World.drewN_drewN]⟩
            by_cases e : j = k
            · subst e; rw [HX.out, HY.out]
            · exact hj.out j (by omega)
          case measure => simp [intOf]; omega
        · have hne : (x != y) = true := by simpa using hxy
          have hxn := Lib.hid hxy
          clear hxy
          go_wp2
          go_quiet (fail)
          go_wp2
          go_ret
          have hno : decide (zs = ys) = false := decide_eq_false (fun e => hxn.out (by rw [← HX.out, ← HY.out, e]))
          exact ⟨ret_bool hno.symm, m + nq, by first | rfl | simp [World.drewN_drewN]⟩
      · have HE := Lib.hid (show k = n by omega)
        go_wp2
        go_ret
        refine ⟨ret_bool (decide_eq_true (list_eq_of HL.out (fun j hj2 => hj.out j ?_))).symm, m, rfl⟩
        rw [HE.out]; rw [HL0.out] at hj2; exact hj2
  · have hne : decide (zs = ys) = false := decide_eq_false (fun e => hnn (by rw [← hl, ← hl', e]))
    have HN := Lib.hid hne
    have hd : ((n : Int) != (n' : Int)) = true := by rw [bne_iff_ne]; omega
    clear hne hl hl'
    go_enter Try.func18, Try.ntmps18
    go_wp2
    go_ret
    exact ⟨ret_bool HN.out.symm, 0, rfl⟩
/-- the numbers that are written into a slice: k, k + 1 .. -/
def marks (k : Int) (n : Nat) : List Int := (List.range n).map (fun j : Nat => k + (j : Int))
theorem marks_len (k : Int) (n : Nat) : (marks k n).length = n := by simp [marks]
theorem marks_getD {k : Int} {n j : Nat} (h : j < n) : (marks k n).getD j 0 = k + j := by
  rw [getD_of (by rw [marks_len]; exact h)]; simp [marks]
/-- the first i numbers are marks, the others as they were -/
def marked (k : Int) (zs : List Int) (i : Nat) : List Int := marks k i ++ zs.drop i
theorem marked_none (k : Int) (zs : List Int) : marked k zs 0 = zs := by simp [marked, marks]
theorem marked_full (k : Int) (zs : List Int) : marked k zs zs.length = marks k zs.length := by simp [marked]
theorem marked_len (k : Int) (zs : List Int) (i : Nat) (h : i ≤ zs.length) : (marked k zs i).length = zs.length := by simp [marked, marks_len]; omega
theorem marked_set (k : Int) (zs : List Int) (i : Nat) (h : i < zs.length) : (marked k zs i).set i (k + i) = marked k zs (i + 1) := by
  unfold marked
  rw [List.set_append_right _ _ (by rw [marks_len]; omega), marks_len, Nat.sub_self, List.drop_eq_getElem_cons h, List.set_cons_zero]
  unfold marks
  rw [List.range_succ, List.map_append, List.append_assoc]; rfl
set_option maxHeartbeats 1000000 in
theorem markInt64S_any (A : Option Addr) (n c base : Nat) (zs : List Int) (k : Int) (w : World) (h : Own w base A n c zs) (hn : n ≤ 1048576) (hk0 : 0 ≤ k) (hk1 : k ≤ 1000000000000) :
    Calls Try.prog 21 #[.slice A n c, .int .i64 k] w fun e w' => e = .returned (.int .i64 (k + n)) ∧ Own w' base A n c (marks k n) ∧ w.grownBy w' (Value.slice A n c).ownBlock := by
  have hl := h.len
  rcases h.form with ⟨rfl, h0, hc0⟩ | ⟨g, rfl, hg, hgl⟩
  · subst h0
    have HL := Lib.hid hl
    have H := Lib.hid h
    clear hl h
    go_enter Try.func21, Try.ntmps21
    go_wp2
    go_loopw [1, 5] (fun s t wr => s = .int .i64 k ∧ t = .int .i64 0 ∧ wr = w) (fun _ _ _ => 0)
    case atStart => exact ⟨rfl, rfl, rfl⟩
    case round =>
      obtain ⟨rfl, rfl, rfl⟩ := hrel
      go_wp2
      go_ret
      refine ⟨ret_int (by simp), ?_, World.grownBy.refl _ _⟩
      have e : zs = marks k 0 := List.eq_nil_of_length_eq_zero HL.out
      rw [← e]; exact H.out
  · have HL := Lib.hid hl
    have H : Hid (w.ownsRow base 2 1 (.slice (some ⟨g, 0, none⟩) n c) n ((marked k zs 0).map (Value.int .i64))) := by rw [marked_none]; exact Lib.hid h
    clear hl h
    go_enter Try.func21, Try.ntmps21
    go_wp2
    go_loopw [1, 5] (fun s t wr => ∃ i : Nat, s = .int .i64 (k + i) ∧ t = .int .i64 i ∧ i ≤ n ∧ Hid (wr.ownsRow base 2 1 (.slice (some ⟨g, 0, none⟩) n c) n ((marked k zs i).map (Value.int .i64))) ∧ w.grownBy wr (some g)) (fun _ t _ => n - (intOf t).toNat)
    case atStart => exact ⟨0, by simp, rfl, Nat.zero_le _, H, World.grownBy.refl _ _⟩
    case round =>
      obtain ⟨i, rfl, rfl, hi, ho, hb⟩ := hrel
      clear H
      by_cases hlt : i < n
      · have hkl : i < zs.length := by rw [HL.out]; exact hlt
        have hcell : ∃ x, wr.cell? ⟨g, i, none⟩ = some (.int .i64 x) := by
          refine ⟨(marked k zs i).getD i 0, ?_⟩
          rw [World.ownsRow.cellAt ho.out i (by omega), List.getElem?_map]
          have : i < (marked k zs i).length := by rw [marked_len k zs i (by omega)]; exact hkl
          rw [List.getElem?_eq_getElem this, getD_of this]; rfl
        obtain ⟨x, hcell⟩ := hcell
        have hfr := World.ownsRow.frozenAt ho.out i
        have hst := World.ownsRow.stored ho.out i (.int .i64 (k + i))
        rw [← List.map_set, marked_set k zs i hkl] at hst
        have HS := Lib.hid hst
        clear hst hkl
        go_wp2
        go_roundw
        case rel => exact ⟨i + 1, by go_num, by go_num, by omega, Lib.hid HS.out.1, hb.trans HS.out.2⟩
        case measure => simp [intOf]; omega
      · have HE := Lib.hid (show i = n by omega)
        go_wp2
        go_ret
        refine ⟨ret_int (by rw [HE.out]), ?_, hb⟩
        have := ho.out
        rw [HE.out, ← HL.out, marked_full] at this
        rw [← HL.out]; exact this
set_option maxHeartbeats 1000000 in
theorem heldInt64S_any (A : Option Addr) (n c B : Nat) (k : Int) (w : World) (h : Ints w B A n (marks k n)) (hn : n ≤ 1048576) (hk0 : 0 ≤ k) (hk1 : k ≤ 1000000000000) :
    Calls Try.prog 22 #[.slice A n c, .int .i64 k] w fun e w' => e = .returned (.int .i64 (k + n)) ∧ w = w' := by
  have H := Lib.hid h
  clear h
  go_enter Try.func22, Try.ntmps22
  go_wp2
  go_loop [1, 5] (fun s t => ∃ i : Nat, s = .int .i64 (k + i) ∧ t = .int .i64 i ∧ i ≤ n) (fun _ t => n - (intOf t).toNat)
  case atStart => exact ⟨0, by simp, rfl, Nat.zero_le _⟩
  case round =>
    obtain ⟨i, rfl, rfl, hi⟩ := hrel
    by_cases hlt : i < n
    · obtain ⟨b, off, rfl, hbl, hc⟩ := H.out.at_ hlt
      rw [marks_getD hlt] at hc
      go_wp2
      go_round
      case rel => exact ⟨i + 1, by go_num, by go_num, by omega⟩
      case measure => simp [intOf]; omega
    · have HE := Lib.hid (show i = n by omega)
      go_wp2
      go_ret
      exact ⟨ret_int (by rw [HE.out]), rfl⟩
end Go.Proofs.Ythjldjbblaioaaa
