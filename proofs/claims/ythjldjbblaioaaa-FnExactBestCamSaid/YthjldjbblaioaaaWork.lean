/- A perpetual work that lies in a block of the call's own, and the functions that move it through a pointer. No conditions but those of a valid work. -/
import Derived.Test.YthjldjbblaioaaaMidn
import Derived.Test.YthjldjbblaioaaaLawKit
import Derived.StillTailTactics
namespace Go.Proofs.Ythjldjbblaioaaa
open Go.RowKit
set_option linter.unusedVariables false
set_option linter.unusedSimpArgs false
section
variable {a w w1 : World} {g : Nat} {row : Option Nat}
theorem only_drewN (h : a.grownBy w row) (n : Nat) : a.grownBy (w.drewN n) row := ⟨h.os, h.tape, h.output, h.size, h.block⟩
theorem only_drew (h : a.grownBy w row) : a.grownBy w.drew row := ⟨h.os, h.tape, h.output, h.size, h.block⟩
theorem only_alloc (h : a.grownBy w row) (o : Obj) : a.grownBy (w.alloc o) row :=
  ⟨h.os, h.tape, h.output, Nat.le_trans h.size (by simp), fun i hi hne => (Below.heap_alloc w o i (Nat.lt_of_lt_of_le hi h.size)).trans (h.block i hi hne)⟩
theorem only_setCell (h : a.grownBy w (some g)) {p : Addr} (hp : p.block = g ∨ a.heap.size ≤ p.block) (u : Value) : a.grownBy (w.setCell p u) (some g) :=
  ⟨h.os, h.tape, h.output, by simpa [World.setCell] using h.size, fun i hi hne => (Below.heap_setCell w p u i (by
    rintro rfl
    rcases hp with hp | hp
    · exact hne (by rw [hp])
    · omega)).trans (h.block i hi hne)⟩
theorem only_below (h : a.grownBy w row) (hb : Below w.heap.size w w1) : a.grownBy w1 row :=
  h.trans ⟨hb.os, hb.tape, hb.output, hb.size, fun i hi _ => hb.block i hi⟩
theorem only_of_below (h : Below a.heap.size a w) : a.grownBy w row := ⟨h.os, h.tape, h.output, h.size, fun i hi _ => h.block i hi⟩
theorem below_only {B : Nat} (h : Below B a w) (hg : w.grownBy w1 (some g)) (hB : B ≤ w.heap.size) (h2 : B ≤ g) : Below B a w1 := h.grown hg hB (fun k hk => by cases hk; exact h2)
end
/-- the work whose cells lie in block g -/
def Work (w : World) (g : Nat) (S : Value) (mo te ix da we wd : Int) : Prop :=
  w.cell? ⟨g, 0, none⟩ = some S ∧ w.cell? ⟨g, 1, none⟩ = some (.int .i64 mo) ∧ w.cell? ⟨g, 2, none⟩ = some (.int .i64 te) ∧ w.cell? ⟨g, 3, none⟩ = some (.int .i64 ix) ∧
    w.cell? ⟨g, 4, none⟩ = some (.int .i64 da) ∧ w.cell? ⟨g, 5, none⟩ = some (.int .i64 we) ∧ w.cell? ⟨g, 6, none⟩ = some (.int .i64 wd) ∧ ∀ o, w.frozen? ⟨g, o, none⟩ = false
theorem Work.lt {w : World} {g : Nat} {S : Value} {mo te ix da we wd : Int} (h : Work w g S mo te ix da we wd) : g < w.heap.size := World.block_lt_of_cell? w _ h.1
theorem Work.keep {w w' : World} {g : Nat} {S : Value} {mo te ix da we wd : Int} (h : Work w g S mo te ix da we wd) (hk : w'.heap[g]? = w.heap[g]?) : Work w' g S mo te ix da we wd := by
  have hc : ∀ o, w'.cell? ⟨g, o, none⟩ = w.cell? ⟨g, o, none⟩ := fun o => World.cell?_of_block (w := w) hk
  have hf : ∀ o, w'.frozen? ⟨g, o, none⟩ = w.frozen? ⟨g, o, none⟩ := fun o => World.frozen?_of_block (w := w) hk
  obtain ⟨h0, h1, h2, h3, h4, h5, h6, h7⟩ := h
  exact ⟨(hc 0).trans h0, (hc 1).trans h1, (hc 2).trans h2, (hc 3).trans h3, (hc 4).trans h4, (hc 5).trans h5, (hc 6).trans h6, fun o => (hf o).trans (h7 o)⟩
theorem Work.call {w w' : World} {g : Nat} {S : Value} {mo te ix da we wd : Int} (h : Work w g S mo te ix da we wd) (hb : Below w.heap.size w w') : Work w' g S mo te ix da we wd := h.keep (hb.block g h.lt)
theorem Work.drewN {w : World} {g : Nat} {S : Value} {mo te ix da we wd : Int} (h : Work w g S mo te ix da we wd) (n : Nat) : Work (w.drewN n) g S mo te ix da we wd := h
theorem Work.alloc {w : World} {g : Nat} {S : Value} {mo te ix da we wd : Int} (h : Work w g S mo te ix da we wd) (o : Obj) : Work (w.alloc o) g S mo te ix da we wd := h.keep (Below.heap_alloc w o g h.lt)
/-- a call moves the work in block g, and writes nothing else -/
def Moved (w : World) (g : Nat) (S : Value) (mo te ix da we wd : Int) : Ending → World → Prop := fun e w' => e = .returned (.tuple #[]) ∧ Work w' g S mo te ix da we wd ∧ w.grownBy w' (some g)
/-! ## Steps -/
theorem mod_i64 (k n : Nat) : ((k : Int)).tmod (n : Int) = ((k % n : Nat) : Int) := by
  rw [Int.tmod_eq_emod_of_nonneg (Int.natCast_nonneg k)]; exact (Int.natCast_emod k n).symm
def mvK (n : Nat) (te : Int) (k : Nat) (da t : Int) : Nat := if te < da + t then (k + 1) % n else k
def mvD (te da t : Int) : Int := if te < da + t then da + t - te else da + t
def mvW (we wd : Int) : Int := wd % we + 1
theorem mvW_bd {we wd : Int} (h : 1 ≤ we) : 1 ≤ mvW we wd ∧ mvW we wd ≤ we := by
  have := Int.emod_nonneg wd (show we ≠ 0 by omega)
  have := Int.emod_lt_of_pos wd (show 0 < we by omega)
  unfold mvW; omega
theorem mvK_lt {n : Nat} {te : Int} {k : Nat} {da t : Int} (h : k < n) : mvK n te k da t < n := by
  unfold mvK; split
  · exact Nat.mod_lt _ (by omega)
  · exact h
theorem mvD_bd {te da t : Int} (h1 : 1 ≤ da) (h2 : da ≤ te) (h3 : 1 ≤ t) (h4 : t ≤ te) : 1 ≤ mvD te da t ∧ mvD te da t ≤ te := by
  unfold mvD; split <;> omega
theorem msI_bd (zs : List Int) {te ix da : Int} (h1 : 1 ≤ da) (h2 : da ≤ te) : 1 ≤ msI zs te ix da ∧ msI zs te ix da ≤ te := by
  unfold msI; split <;> omega
/-- what shows a night later -/
def nightS (zs : List Int) (n : Nat) (te we : Int) (s : Nat × Int × Int) : Nat × Int × Int := (mvK n te s.1 s.2.1 (msI zs te (s.1 : Int) s.2.1), mvD te s.2.1 (msI zs te (s.1 : Int) s.2.1), mvW we s.2.2)
def nightsS (zs : List Int) (n : Nat) (te we : Int) : Nat → Nat × Int × Int → Nat × Int × Int
  | 0, s => s
  | m + 1, s => nightS zs n te we (nightsS zs n te we m s)
def goodS (n : Nat) (te we : Int) (s : Nat × Int × Int) : Prop := s.1 < n ∧ 1 ≤ s.2.1 ∧ s.2.1 ≤ te ∧ 1 ≤ s.2.2 ∧ s.2.2 ≤ we
theorem good_night {zs : List Int} {n : Nat} {te we : Int} {s : Nat × Int × Int} (h : goodS n te we s) : goodS n te we (nightS zs n te we s) := by
  obtain ⟨h1, h2, h3, h4, h5⟩ := h
  have hm := msI_bd zs (ix := (s.1 : Int)) h2 h3
  have hd := mvD_bd h2 h3 hm.1 hm.2
  have hw := mvW_bd (we := we) (wd := s.2.2) (by omega)
  exact ⟨mvK_lt h1, hd.1, hd.2, hw.1, hw.2⟩
theorem good_nights {zs : List Int} {n : Nat} {te we : Int} {s : Nat × Int × Int} (h : goodS n te we s) (m : Nat) : goodS n te we (nightsS zs n te we m s) := by
  induction m with
  | zero => exact h
  | succ m ih => exact good_night ih
set_option maxHeartbeats 1000000 in
theorem moveMonth_any (A : Option Addr) (n c g k : Nat) (mo te da we wd : Int) (w : World) (h : Work w g (.slice A n c) mo te (k : Int) da we wd) (hk : k < n) (hn : n ≤ 1048576) :
    Calls Try.prog 120 #[.pointer (some ⟨g, 0, none⟩)] w (Moved w g (.slice A n c) mo te (((k + 1) % n : Nat) : Int) da we wd) := by
  obtain ⟨q0, q1, q2, q3, q4, q5, q6, q7⟩ := h
  have Q7 := Lib.hid q7
  have f3 := q7 3
  have qr : ((k : Int) + 1).tmod (n : Int) = (((k + 1) % n : Nat) : Int) := mod_i64 (k + 1) n
  have qw : IntKind.i64.wrap ((k : Int) + 1) = (k : Int) + 1 := IntWalk.i64_in _ (by omega)
  have n0 : ((n : Int) == 0) = false := by rw [beq_eq_false_iff_ne]; omega
  have n2 : ¬ ((n : Int) = 0) := by omega
  have n3 : ¬ (n = 0) := by omega
  generalize (k + 1) % n = J at *
  clear q7
  go_enter Try.func120, Try.ntmps120
  go_wp2
  go_region
  all_goals
    go_end0
    (refine ⟨rfl, ⟨by simp [go_sem, *], by simp [go_sem, *], by simp [go_sem, *], by simp [go_sem, *], by simp [go_sem, *], by simp [go_sem, *], by simp [go_sem, *], fun o => by simp [go_sem, Q7.out o]⟩, by (repeat (first | with_reducible exact World.grownBy.refl _ _ | with_reducible refine only_alloc ?_ _ | with_reducible refine only_drewN ?_ _ | with_reducible refine only_drew ?_ | ((with_reducible refine only_setCell ?_ ?_ _); rotate_left; (focus (first | exact .inl rfl | (left; simp; done) | (right; simp; done) | (right; simp; omega)))) | with_reducible refine World.grownBy.trans ?_ (by assumption) | with_reducible refine only_below ?_ (by assumption)))⟩)
set_option maxHeartbeats 1000000 in
theorem moveWeekday_any (g : Nat) (S : Value) (mo te ix da we wd : Int) (w : World) (h : Work w g S mo te ix da we wd) (w1 : 1 ≤ we) (w2 : we ≤ 12) (d1 : 1 ≤ wd) (d2 : wd ≤ we) :
    Calls Try.prog 75 #[.pointer (some ⟨g, 0, none⟩)] w (Moved w g S mo te ix da we (mvW we wd)) := by
  obtain ⟨q0, q1, q2, q3, q4, q5, q6, q7⟩ := h
  have Q7 := Lib.hid q7
  have f6 := q7 6
  have hb := mvW_bd (wd := wd) w1
  have t1 : wd.tmod we = wd % we := Int.tmod_eq_emod_of_nonneg (by omega)
  have t2 : wd % we + 1 = mvW we wd := rfl
  have r0 := Int.emod_nonneg wd (show we ≠ 0 by omega)
  have r1 := Int.emod_lt_of_pos wd (show 0 < we by omega)
  have n0 : (we == 0) = false := by rw [beq_eq_false_iff_ne]; omega
  have n2 : ¬ (we = 0) := by omega
  generalize wd % we = r at *
  generalize mvW we wd = J at *
  obtain rfl := t2
  clear q7
  go_enter Try.func75, Try.ntmps75
  go_wp2
  go_region
  all_goals
    go_end0
    (refine ⟨rfl, ⟨by simp [go_sem, *], by simp [go_sem, *], by simp [go_sem, *], by simp [go_sem, *], by simp [go_sem, *], by simp [go_sem, *], by simp [go_sem, *], fun o => by simp [go_sem, Q7.out o]⟩, by (repeat (first | with_reducible exact World.grownBy.refl _ _ | with_reducible refine only_alloc ?_ _ | with_reducible refine only_drewN ?_ _ | with_reducible refine only_drew ?_ | ((with_reducible refine only_setCell ?_ ?_ _); rotate_left; (focus (first | exact .inl rfl | (left; simp; done) | (right; simp; done) | (right; simp; omega)))) | with_reducible refine World.grownBy.trans ?_ (by assumption) | with_reducible refine only_below ?_ (by assumption)))⟩)
set_option maxHeartbeats 2000000 in
theorem moveDate_any (A : Option Addr) (n c g k : Nat) (mo te da we wd t : Int) (w : World) (h : Work w g (.slice A n c) mo te (k : Int) da we wd) (hk : k < n) (hn : n ≤ 1048576) (t1 : 1 ≤ te) (t2 : te ≤ 60) (d1 : 1 ≤ da) (d2 : da ≤ te) (s1 : 1 ≤ t) (s2 : t ≤ te) :
    Calls Try.prog 74 #[.pointer (some ⟨g, 0, none⟩), .int .i64 t] w (Moved w g (.slice A n c) mo te (mvK n te k da t : Int) (mvD te da t) we wd) := by
  have cM := fun (W : World) (da : Int) (h : Work W g (.slice A n c) mo te (k : Int) da we wd) => moveMonth_any A n c g k mo te da we wd W h hk hn
  have CM := Lib.hid cM
  obtain ⟨q0, q1, q2, q3, q4, q5, q6, q7⟩ := h
  have Q7 := Lib.hid q7
  have f4 := q7 4
  clear q7 cM
  by_cases hd : te < da + t
  · have e1 : mvK n te k da t = (k + 1) % n := if_pos hd
    have e2 : mvD te da t = da + t - te := if_pos hd
    rw [e1, e2]
    clear e1 e2
    go_enter Try.func74, Try.ntmps74
    go_wp2
    go_quiet (fail)
    go_wp2
    go_region
    all_goals
      go_wp2_with fail
      go_at_call 120
      refine (CM.out _ (da + t - te) ⟨by simp [go_sem, *], by simp [go_sem, *], by simp [go_sem, *], by simp [go_sem, *], by simp [go_sem, *], by simp [go_sem, *], by simp [go_sem, *], fun o => by simp [go_sem, Q7.out o]⟩).mono ?_
      rintro e w1 ⟨rfl, hW, hg⟩
      have HW := Lib.hid hW
      clear hW
      go_wp2
      go_end0
      exact ⟨rfl, HW.out, by (repeat (first | with_reducible exact World.grownBy.refl _ _ | with_reducible refine only_alloc ?_ _ | with_reducible refine only_drewN ?_ _ | with_reducible refine only_drew ?_ | ((with_reducible refine only_setCell ?_ ?_ _); rotate_left; (focus (first | exact .inl rfl | (left; simp; done) | (right; simp; done) | (right; simp; omega)))) | with_reducible refine World.grownBy.trans ?_ (by assumption) | with_reducible refine only_below ?_ (by assumption)))⟩
  · have e1 : mvK n te k da t = k := if_neg hd
    have e2 : mvD te da t = da + t := if_neg hd
    rw [e1, e2]
    clear e1 e2
    go_enter Try.func74, Try.ntmps74
    go_wp2
    go_quiet (fail)
    go_wp2
    go_end0
    (refine ⟨rfl, ⟨by simp [go_sem, *], by simp [go_sem, *], by simp [go_sem, *], by simp [go_sem, *], by simp [go_sem, *], by simp [go_sem, *], by simp [go_sem, *], fun o => by simp [go_sem, Q7.out o]⟩, by (repeat (first | with_reducible exact World.grownBy.refl _ _ | with_reducible refine only_alloc ?_ _ | with_reducible refine only_drewN ?_ _ | with_reducible refine only_drew ?_ | ((with_reducible refine only_setCell ?_ ?_ _); rotate_left; (focus (first | exact .inl rfl | (left; simp; done) | (right; simp; done) | (right; simp; omega)))) | with_reducible refine World.grownBy.trans ?_ (by assumption) | with_reducible refine only_below ?_ (by assumption)))⟩)
end Go.Proofs.Ythjldjbblaioaaa
