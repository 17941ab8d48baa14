/- The program's SetPerpetual: a work that shows a day. No conditions but that there are at most 2^20 months, rules and levels. -/
import Derived.Test.YtmbdedkelckedaaCore6
import Derived.Test.YtmbdedkelckedaaPush
namespace Go.Proofs.Ytmbdedkelckedaa
open Go.RowKit
set_option linter.unusedVariables false
set_option linter.unusedSimpArgs false
/-- the greatest of t and of the days of the first k months -/
def teK (ms : List Mth) (t : Int) : Nat → Int
  | 0 => t
  | k + 1 => max (max (teK ms t k) (ms.getD k m0).dy) (ms.getD k m0).lp
theorem teK_bd {ms : List Mth} {t : Int} {n : Nat} (h1 : 1 ≤ t) (h2 : t ≤ 60) (h : ∀ j, j < n → mOk (ms.getD j m0) = true) : ∀ k, k ≤ n → 1 ≤ teK ms t k ∧ teK ms t k ≤ 60
  | 0, _ => ⟨h1, h2⟩
  | k + 1, hk => by
    have ih := teK_bd h1 h2 h k (by omega)
    have := mOk_yes (h k (by omega))
    simp only [teK]
    omega
/-- the greatest of 0 and the first k levels -/
def cgK (zs : List Int) : Nat → Int
  | 0 => 0
  | k + 1 => max (cgK zs k) (zs.getD k 0)
theorem cgK_max {zs : List Int} (h : 0 ≤ zs.getD 0 0) : ∀ k, cgK zs (k + 1) = maxK zs k
  | 0 => by simp only [cgK, maxK]; omega
  | k + 1 => by
    have ih := cgK_max h k
    have e : cgK zs (k + 1 + 1) = max (cgK zs (k + 1)) (zs.getD (k + 1) 0) := rfl
    rw [e, ih]
    simp only [maxK]
    split <;> omega
/-- the place of a day's month on the cam -/
def setIx (l n : Nat) (y m : Int) : Int := y % ((l / n : Nat) : Int) * (n : Int) + m - 1
def rSet (nm : ByteArray) (n n' : Nat) (ms : List Mth) (rs : List Rul) (cw : Int) (zs : List Int) (l : Nat) (y m d wk : Int) : PR :=
  if askV nm n n' ms rs cw zs l = 0 then
    if dOk ms rs n n' y m d && inB wk 1 cw then okP zs l n (teK ms (maxK zs (l - 1)) n) (setIx l n y m) d cw wk else badP 2
  else badP (askV nm n n' ms rs cw zs l)
theorem rSet_len (nm : ByteArray) (n n' : Nat) (ms : List Mth) (rs : List Rul) (cw : Int) (zs : List Int) (l : Nat) (y m d wk : Int) (hl : l ≤ 1048576) : (rSet nm n n' ms rs cw zs l y m d wk).1 ≤ 1048576 := by
  unfold rSet; split
  · split <;> simp [okP, badP, hl]
  · simp [badP]
section
variable {nm : ByteArray} {n n' : Nat} {ms : List Mth} {rs : List Rul} {cw : Int} {zs : List Int} {l : Nat} {y m d wk : Int}
theorem rSet_bad {v : Int} (h : askV nm n n' ms rs cw zs l = v) (h0 : v ≠ 0) : rSet nm n n' ms rs cw zs l y m d wk = badP v := by rw [rSet, h, if_neg h0]
theorem rSet_far (h : askV nm n n' ms rs cw zs l = 0) (h2 : (dOk ms rs n n' y m d && inB wk 1 cw) = false) : rSet nm n n' ms rs cw zs l y m d wk = badP 2 := by rw [rSet, h, if_pos rfl, h2]; rfl
theorem rSet_ok (h : askV nm n n' ms rs cw zs l = 0) (h2 : (dOk ms rs n n' y m d && inB wk 1 cw) = true) : rSet nm n n' ms rs cw zs l y m d wk = okP zs l n (teK ms (maxK zs (l - 1)) n) (setIx l n y m) d cw wk := by rw [rSet, h, if_pos rfl, h2]; rfl
end
theorem setIx_bd {l n : Nat} {y m : Int} (h0 : l % n = 0) (hl : 1 ≤ l) (hl2 : l ≤ 260) (hn : 1 ≤ n) (hy0 : 0 ≤ y) (hm1 : 1 ≤ m) (hm2 : m ≤ n) :
    1 ≤ ((l / n : Nat) : Int) ∧ ((l / n : Nat) : Int) ≤ 260 ∧ 0 ≤ y % ((l / n : Nat) : Int) ∧ y % ((l / n : Nat) : Int) < ((l / n : Nat) : Int) ∧ 0 ≤ y % ((l / n : Nat) : Int) * (n : Int) ∧ y % ((l / n : Nat) : Int) * (n : Int) + n ≤ l := by
  have h1 := Nat.div_add_mod l n
  rw [h0, Nat.add_zero] at h1
  have h2 : 1 ≤ l / n := by
    rcases Nat.eq_zero_or_pos (l / n) with h | h
    · rw [h, Nat.mul_zero] at h1; omega
    · exact h
  have h3 : l / n ≤ l := Nat.div_le_self l n
  have hq : (1 : Int) ≤ ((l / n : Nat) : Int) := by omega
  have a0 := Int.emod_nonneg y (show ((l / n : Nat) : Int) ≠ 0 by omega)
  have a1 := Int.emod_lt_of_pos y (show (0 : Int) < ((l / n : Nat) : Int) by omega)
  refine ⟨hq, by omega, a0, a1, Int.mul_nonneg a0 (by omega), ?_⟩
  have h4 : (y % ((l / n : Nat) : Int) + 1) * (n : Int) ≤ ((l / n : Nat) : Int) * (n : Int) := Int.mul_le_mul_of_nonneg_right (by omega) (by omega)
  have h5 : ((l / n : Nat) : Int) * (n : Int) = (l : Int) := by rw [← Int.natCast_mul, Nat.mul_comm, h1]
  rw [Int.add_mul, Int.one_mul] at h4
  omega
/-- the calendar and the date of the call, and the place of the result -/
structure SW (w W : World) (nm : ByteArray) (A A' : Option Addr) (n n' c c' : Nat) (cw y m d : Int) : Prop where
  cal : CalAt W w.heap.size nm A A' n n' c c' cw
  dt : DatAt W (w.heap.size + 1) y m d
  rs : Work W (w.heap.size + 1 + 1) (.slice none 0 0) 0 0 0 0 0 0
  bl : Below w.heap.size w W
section
variable {w W W' : World} {nm : ByteArray} {A A' : Option Addr} {n n' c c' : Nat} {cw y m d : Int}
theorem SW.call (h : SW w W nm A A' n n' c c' cw y m d) (hb : Below W.heap.size W W') : SW w W' nm A A' n n' c c' cw y m d := ⟨h.cal.call hb, h.dt.call hb, h.rs.call hb, h.bl.trans (hb.mono h.bl.size)⟩
theorem SW.start (w : World) (t t2 t3 : TypeId) (nm : ByteArray) (A A' : Option Addr) (n n' c c' : Nat) (cw y m d : Int) :
    SW w (((w.alloc (.cells #[.string nm, .slice A n c, .slice A' n' c', .int .i64 cw] t)).alloc (.cells #[.int .i64 y, .int .i64 m, .int .i64 d] t2)).alloc (.cells #[.slice none 0 0, .int .i64 0, .int .i64 0, .int .i64 0, .int .i64 0, .int .i64 0, .int .i64 0] t3)) nm A A' n n' c c' cw y m d := by
  have hd := dat_new (w.alloc (.cells #[.string nm, .slice A n c, .slice A' n' c', .int .i64 cw] t)) t2 y m d
  have hw := work_new ((w.alloc (.cells #[.string nm, .slice A n c, .slice A' n' c', .int .i64 cw] t)).alloc (.cells #[.int .i64 y, .int .i64 m, .int .i64 d] t2)) t3 (.slice none 0 0) 0 0 0 0 0 0
  exact ⟨(cal_new w t nm A A' n n' c c' cw).below (B := w.heap.size + 1) (by omega) (((Below.refl (w.heap.size + 1) (w.alloc (.cells #[.string nm, .slice A n c, .slice A' n' c', .int .i64 cw] t))).alloc (by simp) _).alloc (by simp) _), DatAt.alloc (by simpa using hd) _, by simpa using hw, (((Below.refl w.heap.size w).alloc (Nat.le_refl _) _).alloc (by simp) _).alloc (by simp; omega) _⟩
end
theorem set7_heap {g b : Nat} {v0 v1 v2 v3 v4 v5 v6 : Value} (W : World) (h : b ≠ g) : (((((((W.setCell ⟨g, 0, none⟩ v0).setCell ⟨g, 1, none⟩ v1).setCell ⟨g, 2, none⟩ v2).setCell ⟨g, 3, none⟩ v3).setCell ⟨g, 4, none⟩ v4).setCell ⟨g, 5, none⟩ v5).setCell ⟨g, 6, none⟩ v6).heap[b]? = W.heap[b]? := by
  rw [Below.heap_setCell _ _ _ _ h, Below.heap_setCell _ _ _ _ h, Below.heap_setCell _ _ _ _ h, Below.heap_setCell _ _ _ _ h, Below.heap_setCell _ _ _ _ h, Below.heap_setCell _ _ _ _ h, Below.heap_setCell _ _ _ _ h]
theorem below_set7 {B g : Nat} {a W : World} {v0 v1 v2 v3 v4 v5 v6 : Value} (hb : Below B a W) (h : B ≤ g) : Below B a (((((((W.setCell ⟨g, 0, none⟩ v0).setCell ⟨g, 1, none⟩ v1).setCell ⟨g, 2, none⟩ v2).setCell ⟨g, 3, none⟩ v3).setCell ⟨g, 4, none⟩ v4).setCell ⟨g, 5, none⟩ v5).setCell ⟨g, 6, none⟩ v6) :=
  ((((((hb.setCell h _).setCell h _).setCell h _).setCell h _).setCell h _).setCell h _).setCell h _
end Go.Proofs.Ytmbdedkelckedaa
