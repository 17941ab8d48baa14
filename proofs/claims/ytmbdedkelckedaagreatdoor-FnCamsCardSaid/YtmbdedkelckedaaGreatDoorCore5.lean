/- Contracts of the program's and the reference's functions, several texts in one; what each says, and its conditions, stands at its head. -/
import Derived.Test.YtmbdedkelckedaaGreatDoorCore4
import Derived.Test.YtmbdedkelckedaaGreatDoorCore1
import Derived.StillTailTactics
import Derived.Deep.RegionHeld3
import Derived.Laws.BitsLemmas
import Derived.Test.YtmbdedkelckedaaGreatDoorCore3
/- A perpetual work that lies in a block of the call's own, and the functions that move it through a pointer. No conditions but those of a valid work. -/
namespace Go.Proofs.YtmbdedkelckedaaGreatDoor
open Go.RowKit
set_option linter.unusedVariables false
set_option linter.unusedSimpArgs false
/-- the work whose cells lie in block g -/
def Work (w : World) (g : Nat) (S : Value) (mo te ix da we wd : Int) : Prop :=
  w.cell? ⟨g, 0, none⟩ = some S ∧ w.cell? ⟨g, 1, none⟩ = some (.int .i64 mo) ∧ w.cell? ⟨g, 2, none⟩ = some (.int .i64 te) ∧ w.cell? ⟨g, 3, none⟩ = some (.int .i64 ix) ∧
    w.cell? ⟨g, 4, none⟩ = some (.int .i64 da) ∧ w.cell? ⟨g, 5, none⟩ = some (.int .i64 we) ∧ w.cell? ⟨g, 6, none⟩ = some (.int .i64 wd) ∧ ∀ o, w.frozen? ⟨g, o, none⟩ = false
theorem Work.lt {w : World} {g : Nat} {S : Value} {mo te ix da we wd : Int} (h : Work w g S mo te ix da we wd) : g < w.heap.size := World.block_lt_of_cell? w _ h.1
theorem Work.keep {w w' : World} {g : Nat} {S : Value} {mo te ix da we wd : Int} (h : Work w g S mo te ix da we wd) (hk : w'.heap[g]? = w.heap[g]?) : Work w' g S mo te ix da we wd := by
  have hc : ∀ o, w'.cell? ⟨g, o, none⟩ = w.cell? ⟨g, o, none⟩ := fun o => World.cell?_of_block (w := w) hk
  have hf : ∀ o, w'.frozen? ⟨g, o, none⟩ = w.frozen? ⟨g, o, none⟩ := fun o => World.frozen?_of_block (w := w) hk
  obtain ⟨h0, h1, h2, h3, h4, h5, h6, h7⟩ := h
  exact ⟨(hc 0).trans h0, (hc 1).trans h1, (hc 2).trans h2, (hc 3).trans h3, (hc 4).trans h4, (hc 5).trans h5, (hc 6).trans h6, fun o => (hf o).trans (h7 o)⟩
theorem Work.call {w w' : World} {g : Nat} {S : Value} {mo te ix da we wd : Int} (h : Work w g S mo te ix da we wd) (hb : Below w.heap.size w w') : Work w' g S mo te ix da we wd := h.keep (hb.block g h.lt)
theorem Work.drewN {w : World} {g : Nat} {S : Value} {mo te ix da we wd : Int} (h : Work w g S mo te ix da we wd) (n : Nat) : Work (w.drewN n) g S mo te ix da we wd := h
theorem Work.alloc {w : World} {g : Nat} {S : Value} {mo te ix da we wd : Int} (h : Work w g S mo te ix da we wd) (o : Obj) : Work (w.alloc o) g S mo te ix da we wd := h.keep (Below.heap_alloc w o g h.lt)
/-- a call moves the work in block g, and writes nothing else -/
def Moved (w : World) (g : Nat) (S : Value) (mo te ix da we wd : Int) : Ending → World → Prop := fun e w' => e = .returned (.tuple #[]) ∧ Work w' g S mo te ix da we wd ∧ w.grownBy w' (some g)
/-! ## Steps -/
theorem mod_i64 (k n : Nat) : ((k : Int)).tmod (n : Int) = ((k % n : Nat) : Int) := by
  rw [Int.tmod_eq_emod_of_nonneg (Int.natCast_nonneg k)]; exact (Int.natCast_emod k n).symm
def mvK (n : Nat) (te : Int) (k : Nat) (da t : Int) : Nat := if te < da + t then (k + 1) % n else k
def mvD (te da t : Int) : Int := if te < da + t then da + t - te else da + t
def mvW (we wd : Int) : Int := wd % we + 1
theorem mvW_bd {we wd : Int} (h : 1 ≤ we) : 1 ≤ mvW we wd ∧ mvW we wd ≤ we := by
  have := Int.emod_nonneg wd (show we ≠ 0 by omega)
  have := Int.emod_lt_of_pos wd (show 0 < we by omega)
  unfold mvW; omega
theorem mvK_lt {n : Nat} {te : Int} {k : Nat} {da t : Int} (h : k < n) : mvK n te k da t < n := by
  unfold mvK; split
  · exact Nat.mod_lt _ (by omega)
  · exact h
theorem mvD_bd {te da t : Int} (h1 : 1 ≤ da) (h2 : da ≤ te) (h3 : 1 ≤ t) (h4 : t ≤ te) : 1 ≤ mvD te da t ∧ mvD te da t ≤ te := by
  unfold mvD; split <;> omega
theorem msI_bd (zs : List Int) {te ix da : Int} (h1 : 1 ≤ da) (h2 : da ≤ te) : 1 ≤ msI zs te ix da ∧ msI zs te ix da ≤ te := by
  unfold msI; split <;> omega
/-- what shows a night later -/
def nightS (zs : List Int) (n : Nat) (te we : Int) (s : Nat × Int × Int) : Nat × Int × Int := (mvK n te s.1 s.2.1 (msI zs te (s.1 : Int) s.2.1), mvD te s.2.1 (msI zs te (s.1 : Int) s.2.1), mvW we s.2.2)
def nightsS (zs : List Int) (n : Nat) (te we : Int) : Nat → Nat × Int × Int → Nat × Int × Int
  | 0, s => s
  | m + 1, s => nightS zs n te we (nightsS zs n te we m s)
def goodS (n : Nat) (te we : Int) (s : Nat × Int × Int) : Prop := s.1 < n ∧ 1 ≤ s.2.1 ∧ s.2.1 ≤ te ∧ 1 ≤ s.2.2 ∧ s.2.2 ≤ we
theorem good_night {zs : List Int} {n : Nat} {te we : Int} {s : Nat × Int × Int} (h : goodS n te we s) : goodS n te we (nightS zs n te we s) := by
  obtain ⟨h1, h2, h3, h4, h5⟩ := h
  have hm := msI_bd zs (ix := (s.1 : Int)) h2 h3
  have hd := mvD_bd h2 h3 hm.1 hm.2
  have hw := mvW_bd (we := we) (wd := s.2.2) (by omega)
  exact ⟨mvK_lt h1, hd.1, hd.2, hw.1, hw.2⟩
theorem good_nights {zs : List Int} {n : Nat} {te we : Int} {s : Nat × Int × Int} (h : goodS n te we s) (m : Nat) : goodS n te we (nightsS zs n te we m s) := by
  induction m with
  | zero => exact h
  | succ m ih => exact good_night ih
end Go.Proofs.YtmbdedkelckedaaGreatDoor

/- The source of draws: each draw gives some number in its range, and moves the source alone. No conditions but that the bytes lie apart from the source. -/
namespace Go.Proofs.YtmbdedkelckedaaGreatDoor
open Go.RowKit
set_option linter.unusedVariables false
set_option linter.unusedSimpArgs false
section
variable {a w w1 : World} {g : Nat} {row : Option Nat}
theorem only_drewN (h : a.grownBy w row) (n : Nat) : a.grownBy (w.drewN n) row := ⟨h.os, h.tape, h.output, h.size, h.block⟩
theorem only_drew (h : a.grownBy w row) : a.grownBy w.drew row := ⟨h.os, h.tape, h.output, h.size, h.block⟩
theorem only_alloc (h : a.grownBy w row) (o : Obj) : a.grownBy (w.alloc o) row :=
  ⟨h.os, h.tape, h.output, Nat.le_trans h.size (by simp), fun i hi hne => (Below.heap_alloc w o i (Nat.lt_of_lt_of_le hi h.size)).trans (h.block i hi hne)⟩
theorem only_setCell (h : a.grownBy w (some g)) {p : Addr} (hp : p.block = g ∨ a.heap.size ≤ p.block) (u : Value) : a.grownBy (w.setCell p u) (some g) :=
  ⟨h.os, h.tape, h.output, by simpa [World.setCell] using h.size, fun i hi hne => (Below.heap_setCell w p u i (by
    rintro rfl
    rcases hp with hp | hp
    · exact hne (by rw [hp])
    · omega)).trans (h.block i hi hne)⟩
theorem only_below (h : a.grownBy w row) (hb : Below w.heap.size w w1) : a.grownBy w1 row :=
  h.trans ⟨hb.os, hb.tape, hb.output, hb.size, fun i hi _ => hb.block i hi⟩
theorem only_of_below (h : Below a.heap.size a w) : a.grownBy w row := ⟨h.os, h.tape, h.output, h.size, fun i hi _ => h.block i hi⟩
theorem below_only {B : Nat} (h : Below B a w) (hg : w.grownBy w1 (some g)) (hB : B ≤ w.heap.size) (h2 : B ≤ g) : Below B a w1 := h.grown hg hB (fun k hk => by cases hk; exact h2)
end
/-- the slice at A of n bytes can be read; its cells lie below block B -/
def Byts (w : World) (B : Nat) (A : Option Addr) (n : Nat) : Prop :=
  0 < n → ∃ b off, A = some ⟨b, off, none⟩ ∧ b < B ∧ ∀ j, j < n → ∃ x : Int, 0 ≤ x ∧ x ≤ 255 ∧ w.cell? ⟨b, off + j, none⟩ = some (.int .u8 x)
theorem Byts.keep {w w' : World} {B n : Nat} {A : Option Addr} (h : Byts w B A n) (hk : ∀ p : Addr, p.block < B → w'.cell? p = w.cell? p) : Byts w' B A n := fun hn => by
  obtain ⟨b, off, e, hb, hc⟩ := h hn
  exact ⟨b, off, e, hb, fun j hj => by obtain ⟨x, h1, h2, h3⟩ := hc j hj; exact ⟨x, h1, h2, (hk _ hb).trans h3⟩⟩
theorem Byts.below {w w' : World} {B n : Nat} {A : Option Addr} (h : Byts w B A n) (hb : Below B w w') : Byts w' B A n := h.keep fun _ hp => hb.cell hp
theorem Byts.only {w w' : World} {B n g : Nat} {A : Option Addr} (h : Byts w B A n) (hB : B ≤ w.heap.size) (hg : w.grownBy w' (some g)) (h2 : B ≤ g) : Byts w' B A n :=
  h.below (below_only (Below.refl _ _) hg hB h2)
/-- the source in block g; its place is at most K -/
def Src (w : World) (g : Nat) (A : Option Addr) (n c : Nat) (K : Int) : Prop :=
  ∃ x s : Int, w.cell? ⟨g, 0, none⟩ = some (.slice A n c) ∧ w.cell? ⟨g, 1, none⟩ = some (.int .i64 x) ∧ 0 ≤ x ∧ x ≤ K ∧ w.cell? ⟨g, 2, none⟩ = some (.int .u64 s) ∧ ∀ o, w.frozen? ⟨g, o, none⟩ = false
theorem Src.lt {w : World} {g n c : Nat} {A : Option Addr} {K : Int} (h : Src w g A n c K) : g < w.heap.size := by
  obtain ⟨x, s, h0, _⟩ := h
  exact World.block_lt_of_cell? w _ h0
theorem Src.keep {w w' : World} {g n c : Nat} {A : Option Addr} {K : Int} (h : Src w g A n c K) (hk : w'.heap[g]? = w.heap[g]?) : Src w' g A n c K := by
  have hc : ∀ o, w'.cell? ⟨g, o, none⟩ = w.cell? ⟨g, o, none⟩ := fun o => World.cell?_of_block (w := w) hk
  have hf : ∀ o, w'.frozen? ⟨g, o, none⟩ = w.frozen? ⟨g, o, none⟩ := fun o => World.frozen?_of_block (w := w) hk
  obtain ⟨x, s, h0, h1, h2, h3, h4, h5⟩ := h
  exact ⟨x, s, (hc 0).trans h0, (hc 1).trans h1, h2, h3, (hc 2).trans h4, fun o => (hf o).trans (h5 o)⟩
theorem Src.call {w w' : World} {g n c : Nat} {A : Option Addr} {K : Int} (h : Src w g A n c K) (hb : Below w.heap.size w w') : Src w' g A n c K := h.keep (hb.block g h.lt)
theorem Src.alloc {w : World} {g n c : Nat} {A : Option Addr} {K : Int} (h : Src w g A n c K) (o : Obj) : Src (w.alloc o) g A n c K := h.keep (Below.heap_alloc w o g h.lt)
theorem Src.drewN {w : World} {g n c : Nat} {A : Option Addr} {K : Int} (h : Src w g A n c K) (m : Nat) : Src (w.drewN m) g A n c K := h
theorem Src.more {w : World} {g n c : Nat} {A : Option Addr} {K L : Int} (h : Src w g A n c K) (hl : K ≤ L) : Src w g A n c L := by
  obtain ⟨x, s, h0, h1, h2, h3, h4, h5⟩ := h
  exact ⟨x, s, h0, h1, h2, by omega, h4, h5⟩
theorem src_new (w : World) (T : TypeId) (A : Option Addr) (n c : Nat) : Src (w.alloc (.cells #[.slice A n c, .int .i64 0, .int .u64 0] T)) w.heap.size A n c 0 :=
  ⟨0, 0, by simp, by simp, by omega, by omega, by simp, fun o => by simp⟩
/-- a draw: some value, of which P holds; the source in block g is moved, and nothing else is written -/
def Drawn (P : Value → Prop) (w : World) (g : Nat) (A : Option Addr) (n c : Nat) (K : Int) (e : Ending) (w' : World) : Prop :=
  ∃ v, P v ∧ e = .returned v ∧ Src w' g A n c K ∧ w.grownBy w' (some g)
def IntIn (lo hi : Int) (v : Value) : Prop := ∃ x : Int, v = .int .i64 x ∧ lo ≤ x ∧ x ≤ hi
def SomeBool (v : Value) : Prop := ∃ b : Bool, v = .bool b
theorem u64_in (n : Int) (h₀ : 0 ≤ n) (h₁ : n < 2 ^ 63) : IntKind.u64.wrap n = n := by rw [IntKind.wrap_u64]; omega
theorem low8 (s : Int) : ∃ y : Int, 0 ≤ y ∧ y ≤ 255 ∧ wrap64 (bits .and .u64 (IntKind.u64.wrap s / 1099511627776) 255) = y := by
  have h0 : 0 ≤ IntKind.u64.wrap s ∧ IntKind.u64.wrap s < 18446744073709551616 := by rw [IntKind.wrap_u64]; omega
  generalize IntKind.u64.wrap s = u at *
  have h := bits_mask .u64 63 (by decide) u64_in 8 (by decide) (u / 1099511627776) (by omega) (by omega)
  have e : ((2 : Int) ^ 8 - 1) = 255 := by decide
  have e2 : ((2 : Int) ^ 8) = 256 := by decide
  rw [e, e2] at h
  rw [h]
  exact ⟨_, by unfold wrap64; omega, by unfold wrap64; omega, rfl⟩
set_option maxHeartbeats 400000 in
theorem l00From_any (A : Option Addr) (n c : Nat) (w : World) :
    Calls Tryz.prog 27 #[.slice A n c] w fun e w' => e = .returned (.pointer (some ⟨w.heap.size, 0, none⟩)) ∧ Src w' w.heap.size A n c 0 ∧ Below w.heap.size w w' := by
  go_enter Tryz.func27, Tryz.ntmps27
  go_wp2
  go_ret
  exact ⟨rfl, src_new _ _ _ _ _, by (repeat (first | with_reducible exact Below.refl _ _ | with_reducible refine below_alloc ?_ _ | with_reducible refine below_drewN ?_ _ | with_reducible refine Below.drew ?_ | ((with_reducible refine below_set ?_ ?_ _); rotate_left; (focus (first | (simp; done) | (simp; omega) | omega))) | with_reducible refine below_call ?_ (by assumption)))⟩
set_option maxHeartbeats 2000000 in
theorem next_any (A : Option Addr) (n c B g : Nat) (K : Int) (w : World) (h : Src w g A n c K) (hb : Byts w B A n) (hB : B ≤ g) (hn : n ≤ 4096) (hK : K ≤ 1000000000) :
    Calls Tryz.prog 91 #[.pointer (some ⟨g, 0, none⟩)] w (Drawn (IntIn 0 255) w g A n c (K + 1)) := by
  obtain ⟨x, s, q0, q1, h0, h1, q2, qf⟩ := h
  have QF := Lib.hid qf
  have HB := Lib.hid hb
  clear hb
  by_cases hx : x < n
  · obtain ⟨k, rfl⟩ := Int.eq_ofNat_of_zero_le h0
    obtain ⟨b, off, rfl, hbl, hc⟩ := HB.out (by omega)
    obtain ⟨y, y0, y1, hy⟩ := hc k (by omega)
    have hne : b ≠ g := by omega
    have hx1 : (k : Int) + 1 ≤ n := by omega
    go_enter Tryz.func91, Tryz.ntmps91
    go_wp2
    go_quiet (fail)
    go_wp2
    go_quiet (fail)
    go_wp2
    go_quiet (fail)
    go_wp2
    go_ret
    exact ⟨.int .i64 y, ⟨y, rfl, y0, y1⟩, rfl, ⟨(k : Int) + 1, _, by simp [go_sem, *], by simp [go_sem, *], by omega, by omega, by simp [go_sem, *]; rfl, fun o => by simp [go_sem, QF.out o]⟩, by (repeat (first | with_reducible exact World.grownBy.refl _ _ | with_reducible refine only_alloc ?_ _ | with_reducible refine only_drewN ?_ _ | with_reducible refine only_drew ?_ | ((with_reducible refine only_setCell ?_ ?_ _); rotate_left; (focus (first | exact .inl rfl | (left; simp; done) | (right; simp; done) | (right; simp; omega)))) | with_reducible refine World.grownBy.trans ?_ (by assumption) | with_reducible refine only_below ?_ (by assumption)))⟩
  · have hx1 : ¬ (x + 1 ≤ (n : Int)) := by omega
    have hx2 : x ≤ 1000000000 := by omega
    go_enter Tryz.func91, Tryz.ntmps91
    go_wp2
    go_quiet (fail)
    go_wp2
    go_quiet (fail)
    go_wp2
    go_ret
    obtain ⟨y, y0, y1, hy⟩ := low8 (IntKind.u64.wrap (IntKind.u64.wrap (s * 6364136223846793005)) + 1442695040888963407)
    rw [hy]
    exact ⟨.int .i64 y, ⟨y, rfl, y0, y1⟩, rfl, ⟨x + 1, _, by simp [go_sem, *], by simp [go_sem, *], by omega, by omega, by simp [go_sem, *]; rfl, fun o => by simp [go_sem, QF.out o]⟩, by (repeat (first | with_reducible exact World.grownBy.refl _ _ | with_reducible refine only_alloc ?_ _ | with_reducible refine only_drewN ?_ _ | with_reducible refine only_drew ?_ | ((with_reducible refine only_setCell ?_ ?_ _); rotate_left; (focus (first | exact .inl rfl | (left; simp; done) | (right; simp; done) | (right; simp; omega)))) | with_reducible refine World.grownBy.trans ?_ (by assumption) | with_reducible refine only_below ?_ (by assumption)))⟩
theorem tmod_in {x n : Int} (h0 : 0 ≤ x) (hn : 1 < n) : 0 ≤ x.tmod n ∧ x.tmod n ≤ n - 1 := by
  rw [Int.tmod_eq_emod_of_nonneg h0]
  have := Int.emod_nonneg x (show n ≠ 0 by omega)
  have := Int.emod_lt_of_pos x (show 0 < n by omega)
  omega
set_option maxHeartbeats 2000000 in
theorem pick_any (A : Option Addr) (n c B g : Nat) (K m : Int) (w : World) (h : Src w g A n c K) (hb : Byts w B A n) (hB : B ≤ g) (hn : n ≤ 4096) (hK : K ≤ 900000000) (m2 : m ≤ 9223372036854775807) :
    Calls Tryz.prog 59 #[.pointer (some ⟨g, 0, none⟩), .int .i64 m] w (Drawn (IntIn 0 (if m ≤ 1 then 0 else m - 1)) w g A n c (K + 2)) := by
  by_cases h1 : m ≤ 1
  · rw [if_pos h1]
    have H := Lib.hid h
    clear h
    go_enter Tryz.func59, Tryz.ntmps59
    go_wp2
    go_ret
    exact ⟨.int .i64 0, ⟨0, rfl, by omega, by omega⟩, rfl, H.out.more (by omega), World.grownBy.refl _ _⟩
  · rw [if_neg h1]
    have H := Lib.hid h
    have HB := Lib.hid hb
    have hlt := h.lt
    have n0 : (m == 0) = false := by rw [beq_eq_false_iff_ne]; omega
    have n2 : ¬ (m = 0) := by omega
    clear h hb
    by_cases h2 : 200 < m
    · go_enter Tryz.func59, Tryz.ntmps59
      go_wp2_with fail
      go_at_call 91
      refine (next_any A n c B g K _ H.out HB.out hB hn (by omega)).mono ?_
      rintro e w1 ⟨v, ⟨x, rfl, x0, x1⟩, rfl, hs1, hg1⟩
      have S1 := Lib.hid hs1
      have HB1 := Lib.hid (HB.out.only (by omega) hg1 hB)
      clear hs1
      go_wp2_with fail
      go_at_call 91
      refine (next_any A n c B g (K + 1) _ S1.out HB1.out hB hn (by omega)).mono ?_
      rintro e w2 ⟨v, ⟨y, rfl, y0, y1⟩, rfl, hs2, hg2⟩
      have S2 := Lib.hid hs2
      clear hs2
      have hm := tmod_in (x := x * 256 + y) (n := m) (by omega) (by omega)
      obtain ⟨r, hr⟩ : ∃ r, (x * 256 + y).tmod m = r := ⟨_, rfl⟩
      rw [hr] at hm
      have q1 : IntKind.i64.wrap (x * 256) = x * 256 := IntWalk.i64_in _ (by omega)
      have q2 : IntKind.i64.wrap (x * 256 + y) = x * 256 + y := IntWalk.i64_in _ (by omega)
      have he : (x * 256 + y).tmod m = (x * 256 + y) % m := Int.tmod_eq_emod_of_nonneg (by omega)
      go_wp2
      go_ret
      exact ⟨_, ⟨r, by first | rfl | rw [← hr] | rw [← hr, he], by omega, by omega⟩, rfl, S2.out.more (by omega), hg1.trans hg2⟩
    · go_enter Tryz.func59, Tryz.ntmps59
      go_wp2_with fail
      go_at_call 91
      refine (next_any A n c B g K _ H.out HB.out hB hn (by omega)).mono ?_
      rintro e w1 ⟨v, ⟨x, rfl, x0, x1⟩, rfl, hs1, hg1⟩
      have S1 := Lib.hid hs1
      clear hs1
      have hm := tmod_in (x := x) (n := m) (by omega) (by omega)
      obtain ⟨r, hr⟩ : ∃ r, x.tmod m = r := ⟨_, rfl⟩
      rw [hr] at hm
      have he : x.tmod m = x % m := Int.tmod_eq_emod_of_nonneg (by omega)
      go_wp2
      go_ret
      exact ⟨_, ⟨r, by first | rfl | rw [← hr] | rw [← hr, he], by omega, by omega⟩, rfl, S1.out.more (by omega), hg1⟩
set_option maxHeartbeats 1000000 in
theorem one_any (A : Option Addr) (n c B g : Nat) (K m : Int) (w : World) (h : Src w g A n c K) (hb : Byts w B A n) (hB : B ≤ g) (hn : n ≤ 4096) (hK : K ≤ 900000000) (m2 : m ≤ 9223372036854775807) :
    Calls Tryz.prog 58 #[.pointer (some ⟨g, 0, none⟩), .int .i64 m] w (Drawn SomeBool w g A n c (K + 2)) := by
  have H := Lib.hid h
  have HB := Lib.hid hb
  clear h hb
  go_enter Tryz.func58, Tryz.ntmps58
  go_wp2_with fail
  go_at_call 59
  refine (pick_any A n c B g K m _ H.out HB.out hB hn hK m2).mono ?_
  rintro e w1 ⟨v, ⟨x, rfl, x0, x1⟩, rfl, hs1, hg1⟩
  have S1 := Lib.hid hs1
  clear hs1
  go_wp2
  go_ret
  exact ⟨_, ⟨_, rfl⟩, rfl, S1.out, hg1⟩
set_option maxHeartbeats 1000000 in
theorem among_any (A X : Option Addr) (n c B g m cx : Nat) (zs : List Int) (K : Int) (w : World) (h : Src w g A n c K) (hb : Byts w B A n) (hB : B ≤ g) (hn : n ≤ 4096) (hK : K ≤ 900000000) (hX : Ints w w.heap.size X m zs) (hg : ∀ ad, X = some ad → ad.block ≠ g) (hm : 1 ≤ m) (m2 : m ≤ 1048576) :
    Calls Tryz.prog 68 #[.pointer (some ⟨g, 0, none⟩), .slice X m cx] w (Drawn (fun v => ∃ x : Int, v = .int .i64 x ∧ x ∈ zs) w g A n c (K + 2)) := by
  have H := Lib.hid h
  have HB := Lib.hid hb
  have hlt := h.lt
  obtain ⟨b, off, rfl, hbl, hc⟩ := hX.2 (by omega)
  have hne : b ≠ g := by have := hg _ rfl; simpa using this
  have hl := hX.len
  clear h hb hX hg
  go_enter Tryz.func68, Tryz.ntmps68
  go_wp2_with fail
  go_at_call 59
  refine (pick_any A n c B g K m _ H.out HB.out hB hn hK (by omega)).mono ?_
  rintro e w1 ⟨v, ⟨x, rfl, x0, x1⟩, rfl, hs1, hg1⟩
  have S1 := Lib.hid hs1
  have hx : x < m := by split at x1 <;> omega
  obtain ⟨k, rfl⟩ := Int.eq_ofNat_of_zero_le x0
  have hk : k < m := by omega
  have hcell : w1.cell? ⟨b, off + k, none⟩ = some (.int .i64 (zs.getD k 0)) := hg1.cell (hc k hk) (by simpa using hne)
  have hmem : zs.getD k 0 ∈ zs := by rw [getD_of (by omega)]; exact List.getElem_mem _
  have HM := Lib.hid hmem
  generalize zs.getD k 0 = z at *
  clear hs1 hc x1 hmem
  go_wp2
  go_ret
  exact ⟨_, ⟨z, rfl, HM.out⟩, rfl, S1.out, hg1⟩
end Go.Proofs.YtmbdedkelckedaaGreatDoor

/- A source of draws beside a slice of the call's own: each stays as it is while the other is moved. No conditions. -/
namespace Go.Proofs.YtmbdedkelckedaaGreatDoor
open Go.RowKit
set_option linter.unusedVariables false
set_option linter.unusedSimpArgs false
theorem Src.set {w : World} {g n c : Nat} {A : Option Addr} {K : Int} (h : Src w g A n c K) {p : Addr} (hp : p.block ≠ g) (u : Value) : Src (w.setCell p u) g A n c K := h.keep (Below.heap_setCell w p u g (Ne.symm hp))
theorem Src.belowB {w w' : World} {B g n c : Nat} {A : Option Addr} {K : Int} (h : Src w g A n c K) (hb : Below B w w') (hg : g < B) : Src w' g A n c K := h.keep (hb.block g hg)
theorem Byts.set {w : World} {B n : Nat} {A : Option Addr} (h : Byts w B A n) {p : Addr} (hp : B ≤ p.block) (u : Value) : Byts (w.setCell p u) B A n := h.below ((Below.refl _ _).setCell hp u)
theorem Byts.alloc {w : World} {B n : Nat} {A : Option Addr} (h : Byts w B A n) (hB : B ≤ w.heap.size) (o : Obj) : Byts (w.alloc o) B A n := h.below ((Below.refl _ _).alloc hB o)
theorem only_belowB {a w w1 : World} {row : Option Nat} (h : a.grownBy w row) (hb : Below a.heap.size w w1) : a.grownBy w1 row :=
  ⟨hb.os.trans h.os, hb.tape.trans h.tape, hb.output.trans h.output, Nat.le_trans h.size hb.size, fun i hi hne => (hb.block i hi).trans (h.block i hi hne)⟩
theorem Own.only {w w' : World} {base g n c : Nat} {A : Option Addr} {zs : List Int} (h : Own w base A n c zs) (hg : w.grownBy w' (some g)) (hgb : g < base) : Own w' base A n c zs :=
  h.block fun b hb hl => hg.block b hl (by intro e; injection e with e; omega)
theorem frozen_only {w w' : World} {g b : Nat} (hg : w.grownBy w' (some g)) (hb : b < w.heap.size) (hne : b ≠ g) (h : ∀ o, w.frozen? ⟨b, o, none⟩ = false) : ∀ o, w'.frozen? ⟨b, o, none⟩ = false :=
  fun o => (World.frozen?_of_block (w := w) (hg.block b hb (by intro e; exact hne (by injection e)))).trans (h o)
end Go.Proofs.YtmbdedkelckedaaGreatDoor

/- Copies of a perpetual work, its midnights and what it shows. No conditions but those of a valid work. -/
namespace Go.Proofs.YtmbdedkelckedaaGreatDoor
open Go.RowKit
set_option linter.unusedVariables false
set_option linter.unusedSimpArgs false
theorem work_new (w : World) (T : TypeId) (S : Value) (mo te ix da we wd : Int) : Work (w.alloc (.cells #[S, .int .i64 mo, .int .i64 te, .int .i64 ix, .int .i64 da, .int .i64 we, .int .i64 wd] T)) w.heap.size S mo te ix da we wd :=
  ⟨by simp, by simp, by simp, by simp, by simp, by simp, by simp, fun o => by simp⟩
theorem own_appM {w : World} {base n m : Nat} {zs ys : List Int} {v' : Value} (hm : 1 ≤ m) (h : w.ownsRow base 2 1 v' (n + m) (zs.map (Value.int .i64) ++ ys.map (Value.int .i64))) :
    ∃ A' c', v' = .slice A' (n + m) c' ∧ Own w base A' (n + m) c' (zs ++ ys) := by
  rcases h.2 with ⟨_, h0⟩ | ⟨g, cap, cur, e, _⟩
  · omega
  · refine ⟨_, _, e, ?_⟩
    subst e
    have e2 : (zs ++ ys).map (Value.int .i64) = zs.map (Value.int .i64) ++ ys.map (Value.int .i64) := by simp
    unfold Own
    rw [e2]; exact h
theorem wpList_appM {ops : Array Oper} {rest : List Oper} {o : Oper} {a : Act} {Q : Exit → Act → World → Prop} (hgd : o.guard = none) (s x : Operand)
    (ho : o.op = .call { callee := .builtin .append, args := #[s, x], argTypes := #[28, 28] })
    (w : World) (base B : Nat) (A : Option Addr) (n c : Nat) (zs : List Int) (hs : a.eval s = .slice A n c) (hown : Own w base A n c zs) (X : Option Addr) (m cx : Nat) (ys : List Int) (hx : a.eval x = .slice X m cx)
    (hy : Ints w B X m ys) (hm : 1 ≤ m) (hn : n + m ≤ 1000000000000) (hb : base ≤ w.heap.size)
    (h : ∀ A' c' w', Own w' base A' (n + m) c' (zs ++ ys) → Below base w w' → wpList Tryz.prog ops Q rest (a.put o.dst (.slice A' (n + m) c')) w') : wpList Tryz.prog ops Q (o :: rest) a w := by
  obtain ⟨i0, hi, hz0, hz1, hz2⟩ := info_parts info_int64
  obtain ⟨b, off, rfl, hbl, hc⟩ := hy.2 (by omega)
  have hl := hy.len
  refine wpList_append_own_at (P := Tryz.prog) w hgd s x 28 ho base 2 i0 (.int .i64 0) 1 8 Tryz.underlying28 hi hz0 hz1 hz2 rfl (by omega) (.slice A n c) n (zs.map (Value.int .i64)) hs hown ⟨b, off, none⟩ m cx (ys.map (Value.int .i64)) hx (by simp [hl])
    (fun j u hj => ?_) (by simp [Value.oneCell']) (by simp only [maxLen]; omega) (by omega) hb (fun v' w' h1 h2 _ _ => ?_)
  · have hj2 : j < ys.length := by have := (List.getElem?_eq_some_iff.1 hj).1; simpa using this
    have := hc j (by omega)
    rw [getD_of hj2] at this
    rw [List.getElem?_map, List.getElem?_eq_getElem hj2] at hj
    simp at hj
    subst hj
    have e : (⟨b, off, none⟩ : Addr).add j = ⟨b, off + j, none⟩ := by unfold Addr.add; split <;> simp_all
    rw [e]; exact this
  · obtain ⟨A', c', rfl, h3⟩ := own_appM hm h1
    refine h A' c' w' h3 ((Below.refl base w).grown h2 hb (fun k hk => ?_))
    rcases hown.form with ⟨rfl, _⟩ | ⟨g', rfl, hg', _⟩
    · simp [Value.ownBlock] at hk
    · simp [Value.ownBlock] at hk; omega
/-- a call gives a new slice of n elements that reads as zs -/
def NewIntsN (w : World) (n : Nat) (zs : List Int) (e : Ending) (w' : World) : Prop := ∃ A c, e = .returned (.slice A n c) ∧ Own w' w.heap.size A n c zs ∧ Below w.heap.size w w'
/-- a call gives a work with a new cam -/
def NewWork (w : World) (n : Nat) (zs : List Int) (mo te ix da we wd : Int) (e : Ending) (w' : World) : Prop :=
  ∃ A c, e = .returned (.agg #[.slice A n c, .int .i64 mo, .int .i64 te, .int .i64 ix, .int .i64 da, .int .i64 we, .int .i64 wd]) ∧ Own w' w.heap.size A n c zs ∧ Below w.heap.size w w'
/-- whether a month and a day are shown -/
def showB (mo k da month day : Int) : Bool := decide (da = day) && decide (k % mo + 1 = month)
end Go.Proofs.YtmbdedkelckedaaGreatDoor

/- The program's FirstWrong: the number of nights after which a work shows a wrong day. No conditions but that a cam has at most 2^20 levels, and a calendar at most 2^20 months and rules. -/
namespace Go.Proofs.YtmbdedkelckedaaGreatDoor
open Go.RowKit
set_option linter.unusedVariables false
set_option linter.unusedSimpArgs false
/-! ## The plain side -/
/-- the day behind a day -/
def nextS (ms : List Mth) (rs : List Rul) (n n' : Nat) (s : Int × Int × Int) : Int × Int × Int := (nextY n (dayK ms rs n' s.1 s.2.1) s.1 s.2.1 s.2.2, nextM n (dayK ms rs n' s.1 s.2.1) s.2.1 s.2.2, nextD (dayK ms rs n' s.1 s.2.1) s.2.2)
def datesS (ms : List Mth) (rs : List Rul) (n n' : Nat) : Nat → Int × Int × Int → Int × Int × Int
  | 0, s => s
  | j + 1, s => nextS ms rs n n' (datesS ms rs n n' j s)
/-- the first number from s on of which P holds, or s + f -/
def fstB (P : Nat → Bool) : Nat → Nat → Nat
  | 0, s => s
  | f + 1, s => if P s then s else fstB P f (s + 1)
theorem fstB_miss {P : Nat → Bool} (f s : Nat) (h : ∀ i, s ≤ i → i < s + f → P i = false) : fstB P f s = s + f := by
  induction f generalizing s with
  | zero => rfl
  | succ f ih =>
    rw [fstB, if_neg (by rw [h s (Nat.le_refl _) (by omega)]; decide), ih (s + 1) (fun i h1 h2 => h i (by omega) (by omega))]; omega
theorem fstB_hit {P : Nat → Bool} (f s j : Nat) (hs : s ≤ j) (hj : j < s + f) (h : ∀ i, s ≤ i → i < j → P i = false) (hP : P j = true) : fstB P f s = j := by
  induction f generalizing s with
  | zero => omega
  | succ f ih =>
    rw [fstB]
    by_cases e : s = j
    · subst e; rw [if_pos hP]
    · rw [if_neg (by rw [h s (Nat.le_refl _) (by omega)]; decide)]
      exact ih (s + 1) (by omega) (by omega) (fun i h1 h2 => h i (by omega) h2)
section
variable {ms : List Mth} {rs : List Rul} {n n' : Nat} {zs : List Int} {l : Nat} {mo te we : Int} {q : Nat × Int × Int} {s : Int × Int × Int}
/-- night j is the last one that is looked at -/
def stopB (ms : List Mth) (rs : List Rul) (n n' : Nat) (zs : List Int) (l : Nat) (mo te we : Int) (q : Nat × Int × Int) (s : Int × Int × Int) (j : Nat) : Bool :=
  !(inB (datesS ms rs n n' j s).1 0 9999 && showB mo ((nightsS zs l te we j q).1 : Int) (nightsS zs l te we j q).2.1 (datesS ms rs n n' j s).2.1 (datesS ms rs n n' j s).2.2)
/-- what is answered behind the tests -/
def fwOut (ms : List Mth) (rs : List Rul) (n n' : Nat) (zs : List Int) (l : Nat) (mo te we : Int) (q : Nat × Int × Int) (s : Int × Int × Int) (N : Nat) : Value :=
  if fstB (stopB ms rs n n' zs l mo te we q s) N 1 ≤ N && inB (datesS ms rs n n' (fstB (stopB ms rs n n' zs l mo te we q s) N 1) s).1 0 9999 then .tuple #[.int .i64 (fstB (stopB ms rs n n' zs l mo te we q s) N 1 : Int), .int .i64 0] else .tuple #[.int .i64 0, .int .i64 3]
theorem fw_miss {N : Nat} (h : ∀ i, 1 ≤ i → i ≤ N → stopB ms rs n n' zs l mo te we q s i = false) : Value.tuple #[.int .i64 0, .int .i64 3] = fwOut ms rs n n' zs l mo te we q s N := by
  unfold fwOut
  rw [fstB_miss N 1 (fun i h1 h2 => h i h1 (by omega)), if_neg (by simp; omega)]
theorem fw_end {N j : Nat} (h1 : 1 ≤ j) (hj : j ≤ N) (h : ∀ i, 1 ≤ i → i < j → stopB ms rs n n' zs l mo te we q s i = false) (hy : inB (datesS ms rs n n' j s).1 0 9999 = false) : Value.tuple #[.int .i64 0, .int .i64 3] = fwOut ms rs n n' zs l mo te we q s N := by
  unfold fwOut
  rw [fstB_hit N 1 j h1 (by omega) h (by unfold stopB; rw [hy]; rfl), hy, if_neg (by simp)]
theorem fw_hit {N j : Nat} (h1 : 1 ≤ j) (hj : j ≤ N) (h : ∀ i, 1 ≤ i → i < j → stopB ms rs n n' zs l mo te we q s i = false) (hy : inB (datesS ms rs n n' j s).1 0 9999 = true) (hs : showB mo ((nightsS zs l te we j q).1 : Int) (nightsS zs l te we j q).2.1 (datesS ms rs n n' j s).2.1 (datesS ms rs n n' j s).2.2 = false) : Value.tuple #[.int .i64 (j : Int), .int .i64 0] = fwOut ms rs n n' zs l mo te we q s N := by
  unfold fwOut
  rw [fstB_hit N 1 j h1 (by omega) h (by unfold stopB; rw [hy, hs]; rfl), hy, if_pos (by simp; omega)]
theorem fw_go {j : Nat} (hy : inB (datesS ms rs n n' j s).1 0 9999 = true) (hs : showB mo ((nightsS zs l te we j q).1 : Int) (nightsS zs l te we j q).2.1 (datesS ms rs n n' j s).2.1 (datesS ms rs n n' j s).2.2 = true) : stopB ms rs n n' zs l mo te we q s j = false := by unfold stopB; rw [hy, hs]; rfl
theorem next_ok {nm : ByteArray} {cw : Int} {y m d : Int} (hv : vCal nm n n' ms rs cw = true) (h : dOk ms rs n n' y m d = true) (hy : inB (nextY n (dayK ms rs n' y m) y m d) 0 9999 = true) :
    dOk ms rs n n' (nextY n (dayK ms rs n' y m) y m d) (nextM n (dayK ms rs n' y m) m d) (nextD (dayK ms rs n' y m) d) = true := by
  obtain ⟨⟨y0, y1⟩, ⟨m1, m2⟩, d1, d2⟩ := dOk_yes h
  obtain ⟨_, _, _, _, ⟨n1, n2⟩, _⟩ := vCal_yes hv
  unfold dOk
  rw [hy]
  by_cases h1 : dayK ms rs n' y m < d + 1
  · by_cases h2 : (n : Int) < m + 1
    · have e1 : nextY n (dayK ms rs n' y m) y m d = y + 1 := by rw [nextY, if_pos h1, if_pos h2]
      have e2 : nextM n (dayK ms rs n' y m) m d = 1 := by rw [nextM, if_pos h1, if_pos h2]
      have e3 : nextD (dayK ms rs n' y m) d = 1 := by rw [nextD, if_pos h1]
      rw [e1, e2, e3]
      have := dayK_bd (y := y + 1) (m := 1) hv (by omega) (by omega)
      rw [inB_mk (show (1 : Int) ≤ 1 by omega) (by omega), inB_mk (show (1 : Int) ≤ 1 by omega) (by omega)]; rfl
    · have e1 : nextY n (dayK ms rs n' y m) y m d = y := by rw [nextY, if_pos h1, if_neg h2]
      have e2 : nextM n (dayK ms rs n' y m) m d = m + 1 := by rw [nextM, if_pos h1, if_neg h2]
      have e3 : nextD (dayK ms rs n' y m) d = 1 := by rw [nextD, if_pos h1]
      rw [e1, e2, e3]
      have := dayK_bd (y := y) (m := m + 1) hv (by omega) (by omega)
      rw [inB_mk (show (1 : Int) ≤ m + 1 by omega) (by omega), inB_mk (show (1 : Int) ≤ 1 by omega) (by omega)]; rfl
  · have e1 : nextY n (dayK ms rs n' y m) y m d = y := by rw [nextY, if_neg h1]
    have e2 : nextM n (dayK ms rs n' y m) m d = m := by rw [nextM, if_neg h1]
    have e3 : nextD (dayK ms rs n' y m) d = d + 1 := by rw [nextD, if_neg h1]
    rw [e1, e2, e3, inB_mk m1 m2, inB_mk (show (1 : Int) ≤ d + 1 by omega) (by omega)]; rfl
end
def fwT (nm : ByteArray) (n n' : Nat) (ms : List Mth) (rs : List Rul) (cw : Int) (zs : List Int) (l : Nat) (mo te ix da we wd : Int) (y m d nights : Int) : Value :=
  if vCal nm n n' ms rs cw && vPerp zs l mo te ix da we wd then
    if dOk ms rs n n' y m d && inB nights 0 200000 then
      if showB mo ix da m d then fwOut ms rs n n' zs l mo te we (ix.toNat, da, wd) (y, m, d) nights.toNat else .tuple #[.int .i64 0, .int .i64 6]
    else .tuple #[.int .i64 0, .int .i64 2]
  else .tuple #[.int .i64 0, .int .i64 1]
theorem fwT_form (nm : ByteArray) (n n' : Nat) (ms : List Mth) (rs : List Rul) (cw : Int) (zs : List Int) (l : Nat) (mo te ix da we wd : Int) (y m d nights : Int) : ∃ a b : Int, fwT nm n n' ms rs cw zs l mo te ix da we wd y m d nights = .tuple #[.int .i64 a, .int .i64 b] := by
  unfold fwT fwOut
  split
  · split
    · split
      · split <;> exact ⟨_, _, rfl⟩
      · exact ⟨_, _, rfl⟩
    · exact ⟨_, _, rfl⟩
  · exact ⟨_, _, rfl⟩
section
variable {nm : ByteArray} {n n' : Nat} {ms : List Mth} {rs : List Rul} {cw : Int} {zs : List Int} {l : Nat} {mo te ix da we wd y m d nights : Int}
theorem fwT_1 (h : (vCal nm n n' ms rs cw && vPerp zs l mo te ix da we wd) = false) : fwT nm n n' ms rs cw zs l mo te ix da we wd y m d nights = .tuple #[.int .i64 0, .int .i64 1] := by rw [fwT, h]; rfl
theorem fwT_2 (h : (vCal nm n n' ms rs cw && vPerp zs l mo te ix da we wd) = true) (h2 : (dOk ms rs n n' y m d && inB nights 0 200000) = false) : fwT nm n n' ms rs cw zs l mo te ix da we wd y m d nights = .tuple #[.int .i64 0, .int .i64 2] := by rw [fwT, h, h2]; rfl
theorem fwT_6 (h : (vCal nm n n' ms rs cw && vPerp zs l mo te ix da we wd) = true) (h2 : (dOk ms rs n n' y m d && inB nights 0 200000) = true) (h3 : showB mo ix da m d = false) : fwT nm n n' ms rs cw zs l mo te ix da we wd y m d nights = .tuple #[.int .i64 0, .int .i64 6] := by rw [fwT, h, h2, h3]; rfl
theorem fwT_0 {k N : Nat} (h : (vCal nm n n' ms rs cw && vPerp zs l mo te (k : Int) da we wd) = true) (h2 : (dOk ms rs n n' y m d && inB (N : Int) 0 200000) = true) (h3 : showB mo (k : Int) da m d = true) : fwT nm n n' ms rs cw zs l mo te (k : Int) da we wd y m d (N : Int) = fwOut ms rs n n' zs l mo te we (k, da, wd) (y, m, d) N := by rw [fwT, h, h2, h3]; rfl
end
theorem ret_val' {a b : Value} (h : a = b) : Ending.returned a = .returned b := by rw [h]
theorem DatAt.grown {w w' : World} {g k : Nat} {y m d : Int} (h : DatAt w g y m d) (hg : w.grownBy w' (some k)) (hk : k ≠ g) : DatAt w' g y m d := h.keep (hg.block g h.lt (fun e => hk (by first | exact (Option.some.inj e).symm | exact Option.some.inj e)))
theorem CalAt.grown {w w' : World} {g k : Nat} {nm : ByteArray} {A A' : Option Addr} {n n' c c' : Nat} {we : Int} (h : CalAt w g nm A A' n n' c c' we) (hg : w.grownBy w' (some k)) (hk : k ≠ g) : CalAt w' g nm A A' n n' c c' we := by
  have hh := hg.block g h.lt (fun e => hk (by first | exact (Option.some.inj e).symm | exact Option.some.inj e))
  have hc : ∀ o, w'.cell? ⟨g, o, none⟩ = w.cell? ⟨g, o, none⟩ := fun o => World.cell?_of_block (w := w) hh
  exact ⟨Nat.lt_of_lt_of_le h.lt hg.size, (hc 0).trans h.c0, (hc 1).trans h.c1, (hc 2).trans h.c2, (hc 3).trans h.c3⟩
/-- the calendar, the work and the date of the call, each in its block -/
structure FW (w W : World) (gp : Nat) (nm : ByteArray) (A A' : Option Addr) (n n' c c' : Nat) (cw : Int) (S : Value) (mo te ix da we wd y m d : Int) : Prop where
  cal : CalAt W w.heap.size nm A A' n n' c c' cw
  wk : Work W gp S mo te ix da we wd
  dt : DatAt W (w.heap.size + 1 + 1) y m d
  bl : Below w.heap.size w W
section
variable {w W W' : World} {gp : Nat} {nm : ByteArray} {A A' : Option Addr} {n n' c c' : Nat} {cw : Int} {S : Value} {mo te ix da we wd y m d : Int}
theorem FW.call (h : FW w W gp nm A A' n n' c c' cw S mo te ix da we wd y m d) (hb : Below W.heap.size W W') : FW w W' gp nm A A' n n' c c' cw S mo te ix da we wd y m d :=
  ⟨h.cal.call hb, h.wk.call hb, h.dt.call hb, h.bl.trans (hb.mono h.bl.size)⟩
theorem FW.drewN (h : FW w W gp nm A A' n n' c c' cw S mo te ix da we wd y m d) (k : Nat) : FW w (W.drewN k) gp nm A A' n n' c c' cw S mo te ix da we wd y m d :=
  h.call (below_drewN (Below.refl _ _) k)
theorem FW.moved {ix2 da2 wd2 : Int} (h : FW w W gp nm A A' n n' c c' cw S mo te ix da we wd y m d) (hW : Work W' gp S mo te ix2 da2 we wd2) (hg : W.grownBy W' (some gp)) (h1 : w.heap.size < gp) (h2 : gp ≠ w.heap.size + 1 + 1) : FW w W' gp nm A A' n n' c c' cw S mo te ix2 da2 we wd2 y m d :=
  ⟨h.cal.grown hg (by omega), hW, h.dt.grown hg h2, below_only h.bl hg h.bl.size (by omega)⟩
theorem FW.date (h : FW w W gp nm A A' n n' c c' cw S mo te ix da we wd y m d) (h2 : gp ≠ w.heap.size + 1 + 1) (a b c0 : Int) : FW w (((W.setCell ⟨w.heap.size + 1 + 1, 0, none⟩ (.int .i64 a)).setCell ⟨w.heap.size + 1 + 1, 1, none⟩ (.int .i64 b)).setCell ⟨w.heap.size + 1 + 1, 2, none⟩ (.int .i64 c0)) gp nm A A' n n' c c' cw S mo te ix da we wd a b c0 := by
  have hh : ∀ b', b' ≠ w.heap.size + 1 + 1 → (((W.setCell ⟨w.heap.size + 1 + 1, 0, none⟩ (.int .i64 a)).setCell ⟨w.heap.size + 1 + 1, 1, none⟩ (.int .i64 b)).setCell ⟨w.heap.size + 1 + 1, 2, none⟩ (.int .i64 c0)).heap[b']? = W.heap[b']? := fun b' hb => by
    rw [Below.heap_setCell _ _ _ _ hb, Below.heap_setCell _ _ _ _ hb, Below.heap_setCell _ _ _ _ hb]
  have hc : ∀ o, (((W.setCell ⟨w.heap.size + 1 + 1, 0, none⟩ (.int .i64 a)).setCell ⟨w.heap.size + 1 + 1, 1, none⟩ (.int .i64 b)).setCell ⟨w.heap.size + 1 + 1, 2, none⟩ (.int .i64 c0)).cell? ⟨w.heap.size, o, none⟩ = W.cell? ⟨w.heap.size, o, none⟩ := fun o => World.cell?_of_block (w := W) (hh w.heap.size (by omega))
  have hcal := h.cal
  exact ⟨⟨by simpa using hcal.lt, (hc 0).trans hcal.c0, (hc 1).trans hcal.c1, (hc 2).trans hcal.c2, (hc 3).trans hcal.c3⟩, h.wk.keep (hh _ h2), ((h.dt.set0 a).set1 b).set2 c0, ((h.bl.setCell (by simp; omega) _).setCell (by simp; omega) _).setCell (by simp; omega) _⟩
theorem FW.start {L : Option Addr} {l e : Nat} (w : World) (t t2 t3 : TypeId) (nm : ByteArray) (A A' : Option Addr) (n n' c c' : Nat) (cw : Int) (mo te ix da we wd y m d : Int) :
    FW w (((w.alloc (.cells #[.string nm, .slice A n c, .slice A' n' c', .int .i64 cw] t)).alloc (.cells #[.slice L l e, .int .i64 mo, .int .i64 te, .int .i64 ix, .int .i64 da, .int .i64 we, .int .i64 wd] t2)).alloc (.cells #[.int .i64 y, .int .i64 m, .int .i64 d] t3)) (w.heap.size + 1) nm A A' n n' c c' cw (.slice L l e) mo te ix da we wd y m d := by
  have hw := work_new (w.alloc (.cells #[.string nm, .slice A n c, .slice A' n' c', .int .i64 cw] t)) t2 (.slice L l e) mo te ix da we wd
  have hd := dat_new ((w.alloc (.cells #[.string nm, .slice A n c, .slice A' n' c', .int .i64 cw] t)).alloc (.cells #[.slice L l e, .int .i64 mo, .int .i64 te, .int .i64 ix, .int .i64 da, .int .i64 we, .int .i64 wd] t2)) t3 y m d
  have z1 : (w.alloc (.cells #[.string nm, .slice A n c, .slice A' n' c', .int .i64 cw] t)).heap.size = w.heap.size + 1 := by simp
  exact ⟨(cal_new w t nm A A' n n' c c' cw).below (B := w.heap.size + 1) (by omega) (((Below.refl (w.heap.size + 1) (w.alloc (.cells #[.string nm, .slice A n c, .slice A' n' c', .int .i64 cw] t))).alloc (by simp) _).alloc (by simp) _), Work.alloc (by simpa using hw) _, by simpa using hd, (((Below.refl w.heap.size w).alloc (Nat.le_refl _) _).alloc (by simp) _).alloc (by simp; omega) _⟩
end
end Go.Proofs.YtmbdedkelckedaaGreatDoor

/- What the laws over calendars share: dates that are copied, calendars in a block of the law's own. No conditions. -/
namespace Go.Proofs.YtmbdedkelckedaaGreatDoor
open Go.RowKit
set_option linter.unusedVariables false
set_option linter.unusedSimpArgs false
theorem CalAt.alloc {w : World} {g : Nat} {nm : ByteArray} {A A' : Option Addr} {n n' c c' : Nat} {we : Int} (h : CalAt w g nm A A' n n' c c' we) (o : Obj) : CalAt (w.alloc o) g nm A A' n n' c c' we := h.call ((Below.refl _ _).alloc (Nat.le_refl _) o)
theorem wf_lo {a : Int} (h : (Lit.int .i64 a).wf = true) : -9223372036854775808 ≤ a ∧ a ≤ 9223372036854775807 := by
  simp only [Lit.wf, Bool.and_eq_true, decide_eq_true_eq] at h
  have e1 : IntKind.i64.min = -9223372036854775808 := (by decide)
  have e2 : IntKind.i64.max = 9223372036854775807 := (by decide)
  omega
end Go.Proofs.YtmbdedkelckedaaGreatDoor
