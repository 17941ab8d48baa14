/- The source of draws: each draw gives some number in its range, and moves the source alone. No conditions but that the bytes lie apart from the source. -/
import Derived.Test.YtajcbppndkkbpaaGreatDoorInts
import Derived.Deep.RegionHeld3
import Derived.StillTailTactics
import Derived.Laws.BitsLemmas
namespace Go.Proofs.YtajcbppndkkbpaaGreatDoor
open Go.RowKit
set_option linter.unusedVariables false
set_option linter.unusedSimpArgs false
section
variable {a w w1 : World} {g : Nat} {row : Option Nat}
theorem only_drewN (h : a.grownBy w row) (n : Nat) : a.grownBy (w.drewN n) row := ⟨h.os, h.tape, h.output, h.size, h.block⟩
theorem only_drew (h : a.grownBy w row) : a.grownBy w.drew row := ⟨h.os, h.tape, h.output, h.size, h.block⟩
theorem only_alloc (h : a.grownBy w row) (o : Obj) : a.grownBy (w.alloc o) row :=
  ⟨h.os, h.tape, h.output, Nat.le_trans h.size (by simp), fun i hi hne => (Below.heap_alloc w o i (Nat.lt_of_lt_of_le hi h.size)).trans (h.block i hi hne)⟩
theorem only_setCell (h : a.grownBy w (some g)) {p : Addr} (hp : p.block = g ∨ a.heap.size ≤ p.block) (u : Value) : a.grownBy (w.setCell p u) (some g) :=
  ⟨h.os, h.tape, h.output, by simpa [World.setCell] using h.size, fun i hi hne => (Below.heap_setCell w p u i (by
    rintro rfl
    rcases hp with hp | hp
    · exact hne (by rw [hp])
    · omega)).trans (h.block i hi hne)⟩
theorem only_below (h : a.grownBy w row) (hb : Below w.heap.size w w1) : a.grownBy w1 row :=
  h.trans ⟨hb.os, hb.tape, hb.output, hb.size, fun i hi _ => hb.block i hi⟩
theorem only_of_below (h : Below a.heap.size a w) : a.grownBy w row := ⟨h.os, h.tape, h.output, h.size, fun i hi _ => h.block i hi⟩
theorem below_only {B : Nat} (h : Below B a w) (hg : w.grownBy w1 (some g)) (hB : B ≤ w.heap.size) (h2 : B ≤ g) : Below B a w1 := h.grown hg hB (fun k hk => by cases hk; exact h2)
end
/-- the slice at A of n bytes can be read; its cells lie below block B -/
def Byts (w : World) (B : Nat) (A : Option Addr) (n : Nat) : Prop :=
  0 < n → ∃ b off, A = some ⟨b, off, none⟩ ∧ b < B ∧ ∀ j, j < n → ∃ x : Int, 0 ≤ x ∧ x ≤ 255 ∧ w.cell? ⟨b, off + j, none⟩ = some (.int .u8 x)
theorem Byts.keep {w w' : World} {B n : Nat} {A : Option Addr} (h : Byts w B A n) (hk : ∀ p : Addr, p.block < B → w'.cell? p = w.cell? p) : Byts w' B A n := fun hn => by
  obtain ⟨b, off, e, hb, hc⟩ := h hn
  exact ⟨b, off, e, hb, fun j hj => by obtain ⟨x, h1, h2, h3⟩ := hc j hj; exact ⟨x, h1, h2, (hk _ hb).trans h3⟩⟩
theorem Byts.below {w w' : World} {B n : Nat} {A : Option Addr} (h : Byts w B A n) (hb : Below B w w') : Byts w' B A n := h.keep fun _ hp => hb.cell hp
theorem Byts.only {w w' : World} {B n g : Nat} {A : Option Addr} (h : Byts w B A n) (hB : B ≤ w.heap.size) (hg : w.grownBy w' (some g)) (h2 : B ≤ g) : Byts w' B A n :=
  h.below (below_only (Below.refl _ _) hg hB h2)
/-- the source in block g; its place is at most K -/
def Src (w : World) (g : Nat) (A : Option Addr) (n c : Nat) (K : Int) : Prop :=
  ∃ x s : Int, w.cell? ⟨g, 0, none⟩ = some (.slice A n c) ∧ w.cell? ⟨g, 1, none⟩ = some (.int .i64 x) ∧ 0 ≤ x ∧ x ≤ K ∧ w.cell? ⟨g, 2, none⟩ = some (.int .u64 s) ∧ ∀ o, w.frozen? ⟨g, o, none⟩ = false
theorem Src.lt {w : World} {g n c : Nat} {A : Option Addr} {K : Int} (h : Src w g A n c K) : g < w.heap.size := by
  obtain ⟨x, s, h0, _⟩ := h
  exact World.block_lt_of_cell? w _ h0
theorem Src.keep {w w' : World} {g n c : Nat} {A : Option Addr} {K : Int} (h : Src w g A n c K) (hk : w'.heap[g]? = w.heap[g]?) : Src w' g A n c K := by
  have hc : ∀ o, w'.cell? ⟨g, o, none⟩ = w.cell? ⟨g, o, none⟩ := fun o => World.cell?_of_block (w := w) hk
  have hf : ∀ o, w'.frozen? ⟨g, o, none⟩ = w.frozen? ⟨g, o, none⟩ := fun o => World.frozen?_of_block (w := w) hk
  obtain ⟨x, s, h0, h1, h2, h3, h4, h5⟩ := h
  exact ⟨x, s, (hc 0).trans h0, (hc 1).trans h1, h2, h3, (hc 2).trans h4, fun o => (hf o).trans (h5 o)⟩
theorem Src.call {w w' : World} {g n c : Nat} {A : Option Addr} {K : Int} (h : Src w g A n c K) (hb : Below w.heap.size w w') : Src w' g A n c K := h.keep (hb.block g h.lt)
theorem Src.alloc {w : World} {g n c : Nat} {A : Option Addr} {K : Int} (h : Src w g A n c K) (o : Obj) : Src (w.alloc o) g A n c K := h.keep (Below.heap_alloc w o g h.lt)
theorem Src.drewN {w : World} {g n c : Nat} {A : Option Addr} {K : Int} (h : Src w g A n c K) (m : Nat) : Src (w.drewN m) g A n c K := h
theorem Src.more {w : World} {g n c : Nat} {A : Option Addr} {K L : Int} (h : Src w g A n c K) (hl : K ≤ L) : Src w g A n c L := by
  obtain ⟨x, s, h0, h1, h2, h3, h4, h5⟩ := h
  exact ⟨x, s, h0, h1, h2, by omega, h4, h5⟩
theorem src_new (w : World) (T : TypeId) (A : Option Addr) (n c : Nat) : Src (w.alloc (.cells #[.slice A n c, .int .i64 0, .int .u64 0] T)) w.heap.size A n c 0 :=
  ⟨0, 0, by simp, by simp, by omega, by omega, by simp, fun o => by simp⟩
/-- a draw: some value, of which P holds; the source in block g is moved, and nothing else is written -/
def Drawn (P : Value → Prop) (w : World) (g : Nat) (A : Option Addr) (n c : Nat) (K : Int) (e : Ending) (w' : World) : Prop :=
  ∃ v, P v ∧ e = .returned v ∧ Src w' g A n c K ∧ w.grownBy w' (some g)
def IntIn (lo hi : Int) (v : Value) : Prop := ∃ x : Int, v = .int .i64 x ∧ lo ≤ x ∧ x ≤ hi
def SomeBool (v : Value) : Prop := ∃ b : Bool, v = .bool b
theorem u64_in (n : Int) (h₀ : 0 ≤ n) (h₁ : n < 2 ^ 63) : IntKind.u64.wrap n = n := by rw [IntKind.wrap_u64]; omega
theorem low8 (s : Int) : ∃ y : Int, 0 ≤ y ∧ y ≤ 255 ∧ wrap64 (bits .and .u64 (IntKind.u64.wrap s / 1099511627776) 255) = y := by
  have h0 : 0 ≤ IntKind.u64.wrap s ∧ IntKind.u64.wrap s < 18446744073709551616 := by rw [IntKind.wrap_u64]; omega
  generalize IntKind.u64.wrap s = u at *
  have h := bits_mask .u64 63 (by decide) u64_in 8 (by decide) (u / 1099511627776) (by omega) (by omega)
  have e : ((2 : Int) ^ 8 - 1) = 255 := by decide
  have e2 : ((2 : Int) ^ 8) = 256 := by decide
  rw [e, e2] at h
  rw [h]
  exact ⟨_, by unfold wrap64; omega, by unfold wrap64; omega, rfl⟩
set_option maxHeartbeats 400000 in
theorem l00From_any (A : Option Addr) (n c : Nat) (w : World) :
    Calls Tryz.prog 28 #[.slice A n c] w fun e w' => e = .returned (.pointer (some ⟨w.heap.size, 0, none⟩)) ∧ Src w' w.heap.size A n c 0 ∧ Below w.heap.size w w' := by
  go_enter Tryz.func28, Tryz.ntmps28
  go_wp2
  go_ret
  exact ⟨rfl, src_new _ _ _ _ _, by (repeat (first | with_reducible exact Below.refl _ _ | with_reducible refine below_alloc ?_ _ | with_reducible refine below_drewN ?_ _ | with_reducible refine Below.drew ?_ | ((with_reducible refine below_set ?_ ?_ _); rotate_left; (focus (first | (simp; done) | (simp; omega) | omega))) | with_reducible refine below_call ?_ (by assumption)))⟩
set_option maxHeartbeats 2000000 in
theorem next_any (A : Option Addr) (n c B g : Nat) (K : Int) (w : World) (h : Src w g A n c K) (hb : Byts w B A n) (hB : B ≤ g) (hn : n ≤ 4096) (hK : K ≤ 1000000000) :
    Calls Tryz.prog 59 #[.pointer (some ⟨g, 0, none⟩)] w (Drawn (IntIn 0 255) w g A n c (K + 1)) := by
  obtain ⟨x, s, q0, q1, h0, h1, q2, qf⟩ := h
  have QF := Lib.hid qf
  have HB := Lib.hid hb
  clear hb
  by_cases hx : x < n
  · obtain ⟨k, rfl⟩ := Int.eq_ofNat_of_zero_le h0
    obtain ⟨b, off, rfl, hbl, hc⟩ := HB.out (by omega)
    obtain ⟨y, y0, y1, hy⟩ := hc k (by omega)
    have hne : b ≠ g := by omega
    have hx1 : (k : Int) + 1 ≤ n := by omega
    go_enter Tryz.func59, Tryz.ntmps59
    go_wp2
    go_quiet (fail)
    go_wp2
    go_quiet (fail)
    go_wp2
    go_quiet (fail)
    go_wp2
    go_ret
    exact ⟨.int .i64 y, ⟨y, rfl, y0, y1⟩, rfl, ⟨(k : Int) + 1, _, by simp [go_sem, *], by simp [go_sem, *], by omega, by omega, by simp [go_sem, *]; rfl, fun o => by simp [go_sem, QF.out o]⟩, by (repeat (first | with_reducible exact World.grownBy.refl _ _ | with_reducible refine only_alloc ?_ _ | with_reducible refine only_drewN ?_ _ | with_reducible refine only_drew ?_ | ((with_reducible refine only_setCell ?_ ?_ _); rotate_left; (focus (first | exact .inl rfl | (left; simp; done) | (right; simp; done) | (right; simp; omega)))) | with_reducible refine World.grownBy.trans ?_ (by assumption) | with_reducible refine only_below ?_ (by assumption)))⟩
  · have hx1 : ¬ (x + 1 ≤ (n : Int)) := by omega
    have hx2 : x ≤ 1000000000 := by omega
    go_enter Tryz.func59, Tryz.ntmps59
    go_wp2
    go_quiet (fail)
    go_wp2
    go_quiet (fail)
    go_wp2
    go_ret
    obtain ⟨y, y0, y1, hy⟩ := low8 (IntKind.u64.wrap (IntKind.u64.wrap (s * 6364136223846793005)) + 1442695040888963407)
    rw [hy]
    exact ⟨.int .i64 y, ⟨y, rfl, y0, y1⟩, rfl, ⟨x + 1, _, by simp [go_sem, *], by simp [go_sem, *], by omega, by omega, by simp [go_sem, *]; rfl, fun o => by simp [go_sem, QF.out o]⟩, by (repeat (first | with_reducible exact World.grownBy.refl _ _ | with_reducible refine only_alloc ?_ _ | with_reducible refine only_drewN ?_ _ | with_reducible refine only_drew ?_ | ((with_reducible refine only_setCell ?_ ?_ _); rotate_left; (focus (first | exact .inl rfl | (left; simp; done) | (right; simp; done) | (right; simp; omega)))) | with_reducible refine World.grownBy.trans ?_ (by assumption) | with_reducible refine only_below ?_ (by assumption)))⟩
theorem tmod_in {x n : Int} (h0 : 0 ≤ x) (hn : 1 < n) : 0 ≤ x.tmod n ∧ x.tmod n ≤ n - 1 := by
  rw [Int.tmod_eq_emod_of_nonneg h0]
  have := Int.emod_nonneg x (show n ≠ 0 by omega)
  have := Int.emod_lt_of_pos x (show 0 < n by omega)
  omega
set_option maxHeartbeats 2000000 in
theorem pick_any (A : Option Addr) (n c B g : Nat) (K m : Int) (w : World) (h : Src w g A n c K) (hb : Byts w B A n) (hB : B ≤ g) (hn : n ≤ 4096) (hK : K ≤ 900000000) (m2 : m ≤ 9223372036854775807) :
    Calls Tryz.prog 36 #[.pointer (some ⟨g, 0, none⟩), .int .i64 m] w (Drawn (IntIn 0 (if m ≤ 1 then 0 else m - 1)) w g A n c (K + 2)) := by
  by_cases h1 : m ≤ 1
  · rw [if_pos h1]
    have H := Lib.hid h
    clear h
    go_enter Tryz.func36, Tryz.ntmps36
    go_wp2
    go_ret
    exact ⟨.int .i64 0, ⟨0, rfl, by omega, by omega⟩, rfl, H.out.more (by omega), World.grownBy.refl _ _⟩
  · rw [if_neg h1]
    have H := Lib.hid h
    have HB := Lib.hid hb
    have hlt := h.lt
    have n0 : (m == 0) = false := by rw [beq_eq_false_iff_ne]; omega
    have n2 : ¬ (m = 0) := by omega
    clear h hb
    by_cases h2 : 200 < m
    · go_enter Tryz.func36, Tryz.ntmps36
      go_wp2_with fail
      go_at_call 59
      refine (next_any A n c B g K _ H.out HB.out hB hn (by omega)).mono ?_
      rintro e w1 ⟨v, ⟨x, rfl, x0, x1⟩, rfl, hs1, hg1⟩
      have S1 := Lib.hid hs1
      have HB1 := Lib.hid (HB.out.only (by omega) hg1 hB)
      clear hs1
      go_wp2_with fail
      go_at_call 59
      refine (next_any A n c B g (K + 1) _ S1.out HB1.out hB hn (by omega)).mono ?_
      rintro e w2 ⟨v, ⟨y, rfl, y0, y1⟩, rfl, hs2, hg2⟩
      have S2 := Lib.hid hs2
      clear hs2
      have hm := tmod_in (x := x * 256 + y) (n := m) (by omega) (by omega)
      obtain ⟨r, hr⟩ : ∃ r, (x * 256 + y).tmod m = r := ⟨_, rfl⟩
      rw [hr] at hm
      have q1 : IntKind.i64.wrap (x * 256) = x * 256 := IntWalk.i64_in _ (by omega)
      have q2 : IntKind.i64.wrap (x * 256 + y) = x * 256 + y := IntWalk.i64_in _ (by omega)
      have he : (x * 256 + y).tmod m = (x * 256 + y) % m := Int.tmod_eq_emod_of_nonneg (by omega)
      go_wp2
      go_ret
      exact ⟨_, ⟨r, by first | rfl | rw [← hr] | rw [← hr, he], by omega, by omega⟩, rfl, S2.out.more (by omega), hg1.trans hg2⟩
    · go_enter Tryz.func36, Tryz.ntmps36
      go_wp2_with fail
      go_at_call 59
      refine (next_any A n c B g K _ H.out HB.out hB hn (by omega)).mono ?_
      rintro e w1 ⟨v, ⟨x, rfl, x0, x1⟩, rfl, hs1, hg1⟩
      have S1 := Lib.hid hs1
      clear hs1
      have hm := tmod_in (x := x) (n := m) (by omega) (by omega)
      obtain ⟨r, hr⟩ : ∃ r, x.tmod m = r := ⟨_, rfl⟩
      rw [hr] at hm
      have he : x.tmod m = x % m := Int.tmod_eq_emod_of_nonneg (by omega)
      go_wp2
      go_ret
      exact ⟨_, ⟨r, by first | rfl | rw [← hr] | rw [← hr, he], by omega, by omega⟩, rfl, S1.out.more (by omega), hg1⟩
set_option maxHeartbeats 1000000 in
theorem one_any (A : Option Addr) (n c B g : Nat) (K m : Int) (w : World) (h : Src w g A n c K) (hb : Byts w B A n) (hB : B ≤ g) (hn : n ≤ 4096) (hK : K ≤ 900000000) (m2 : m ≤ 9223372036854775807) :
    Calls Tryz.prog 35 #[.pointer (some ⟨g, 0, none⟩), .int .i64 m] w (Drawn SomeBool w g A n c (K + 2)) := by
  have H := Lib.hid h
  have HB := Lib.hid hb
  clear h hb
  go_enter Tryz.func35, Tryz.ntmps35
  go_wp2_with fail
  go_at_call 36
  refine (pick_any A n c B g K m _ H.out HB.out hB hn hK m2).mono ?_
  rintro e w1 ⟨v, ⟨x, rfl, x0, x1⟩, rfl, hs1, hg1⟩
  have S1 := Lib.hid hs1
  clear hs1
  go_wp2
  go_ret
  exact ⟨_, ⟨_, rfl⟩, rfl, S1.out, hg1⟩
set_option maxHeartbeats 1000000 in
theorem among_any (A X : Option Addr) (n c B g m cx : Nat) (zs : List Int) (K : Int) (w : World) (h : Src w g A n c K) (hb : Byts w B A n) (hB : B ≤ g) (hn : n ≤ 4096) (hK : K ≤ 900000000) (hX : Ints w w.heap.size X m zs) (hg : ∀ ad, X = some ad → ad.block ≠ g) (hm : 1 ≤ m) (m2 : m ≤ 1048576) :
    Calls Tryz.prog 56 #[.pointer (some ⟨g, 0, none⟩), .slice X m cx] w (Drawn (fun v => ∃ x : Int, v = .int .i64 x ∧ x ∈ zs) w g A n c (K + 2)) := by
  have H := Lib.hid h
  have HB := Lib.hid hb
  have hlt := h.lt
  obtain ⟨b, off, rfl, hbl, hc⟩ := hX.2 (by omega)
  have hne : b ≠ g := by have := hg _ rfl; simpa using this
  have hl := hX.len
  clear h hb hX hg
  go_enter Tryz.func56, Tryz.ntmps56
  go_wp2_with fail
  go_at_call 36
  refine (pick_any A n c B g K m _ H.out HB.out hB hn hK (by omega)).mono ?_
  rintro e w1 ⟨v, ⟨x, rfl, x0, x1⟩, rfl, hs1, hg1⟩
  have S1 := Lib.hid hs1
  have hx : x < m := by split at x1 <;> omega
  obtain ⟨k, rfl⟩ := Int.eq_ofNat_of_zero_le x0
  have hk : k < m := by omega
  have hcell : w1.cell? ⟨b, off + k, none⟩ = some (.int .i64 (zs.getD k 0)) := hg1.cell (hc k hk) (by simpa using hne)
  have hmem : zs.getD k 0 ∈ zs := by rw [getD_of (by omega)]; exact List.getElem_mem _
  have HM := Lib.hid hmem
  generalize zs.getD k 0 = z at *
  clear hs1 hc x1 hmem
  go_wp2
  go_ret
  exact ⟨_, ⟨z, rfl, HM.out⟩, rfl, S1.out, hg1⟩
end Go.Proofs.YtajcbppndkkbpaaGreatDoor
