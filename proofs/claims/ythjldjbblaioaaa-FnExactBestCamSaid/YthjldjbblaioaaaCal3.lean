/- Contract of the copy of a calendar. No conditions but that the calendar has at most 2^20 months and rules. -/
import Derived.Test.YthjldjbblaioaaaCal2
namespace Go.Proofs.Ythjldjbblaioaaa
open Go.RowKit
set_option linter.unusedVariables false
set_option linter.unusedSimpArgs false
/-- two rows of the call's own, one behind the other: months in block g, rules in block g' -/
structure Own2 (w : World) (lo hi g g' n n' : Nat) (ms : List T3) (rs : List T3) : Prop where
  lo_ : lo ≤ g
  mid : g < g'
  hi_ : g' < hi
  sz : hi ≤ w.heap.size
  m : Own3 w 106 lo (some ⟨g, 0, none⟩) n n ms
  r : Own3 w 132 (g + 1) (some ⟨g', 0, none⟩) n' n' rs
theorem Own3.block {w w' : World} {t : TypeId} {lo g n c : Nat} {es : List T3} (h : Own3 w t lo (some ⟨g, 0, none⟩) n c es) (hk : w'.heap[g]? = w.heap[g]?) : Own3 w' t lo (some ⟨g, 0, none⟩) n c es := by
  refine ⟨h.1, ?_⟩
  rcases h.2 with h0 | ⟨g2, cap, cur, e2, hb2, hg, hr⟩
  · exact .inl h0
  · refine .inr ⟨g2, cap, cur, e2, hb2, ?_, hr⟩
    injection e2 with e3
    injection e3 with e3
    injection e3 with e3
    subst e3
    rw [hk]; exact hg
theorem Own3.lt {w : World} {t : TypeId} {lo g n c : Nat} {es : List T3} (h : Own3 w t lo (some ⟨g, 0, none⟩) n c es) : lo ≤ g ∧ g < w.heap.size := by
  rcases h.2 with ⟨h0, _⟩ | ⟨g2, cap, cur, e2, hb2, hg, hr⟩
  · cases h0
  · injection e2 with e3
    injection e3 with e3
    injection e3 with e3
    subst e3
    exact ⟨hb2, (Array.getElem?_eq_some_iff.1 hg).1⟩
theorem Own3.low {w : World} {t : TypeId} {lo lo' g n c : Nat} {es : List T3} (h : Own3 w t lo (some ⟨g, 0, none⟩) n c es) (hl : lo' ≤ lo) : Own3 w t lo' (some ⟨g, 0, none⟩) n c es := by
  refine ⟨h.1, ?_⟩
  rcases h.2 with h0 | ⟨g2, cap, cur, e2, hb2, hg, hr⟩
  · exact .inl h0
  · exact .inr ⟨g2, cap, cur, e2, by omega, hg, hr⟩
theorem Own3.up {w : World} {t : TypeId} {lo lo' g n c : Nat} {es : List T3} (h : Own3 w t lo (some ⟨g, 0, none⟩) n c es) (hl : lo' ≤ g) : Own3 w t lo' (some ⟨g, 0, none⟩) n c es := by
  refine ⟨h.1, ?_⟩
  rcases h.2 with h0 | ⟨g2, cap, cur, e2, hb2, hg, hr⟩
  · exact .inl h0
  · refine .inr ⟨g2, cap, cur, e2, ?_, hg, hr⟩
    injection e2 with e3
    injection e3 with e3
    injection e3 with e3
    omega
section
variable {w w' : World} {lo hi g g' n n' : Nat} {ms rs : List T3}
theorem Own2.keep (h : Own2 w lo hi g g' n n' ms rs) (hs : w.heap.size ≤ w'.heap.size) (hk : ∀ b, lo ≤ b → b < hi → w'.heap[b]? = w.heap[b]?) : Own2 w' lo hi g g' n n' ms rs := by
  have h1 := h.lo_
  have h2 := h.mid
  have h3 := h.hi_
  exact ⟨h1, h2, h3, Nat.le_trans h.sz hs, Own3.block h.m (hk g (by omega) (by omega)), Own3.block h.r (hk g' (by omega) (by omega))⟩
theorem Own2.call (h : Own2 w lo hi g g' n n' ms rs) (hb : Below w.heap.size w w') : Own2 w' lo hi g g' n n' ms rs :=
  h.keep hb.size fun b _ hl => hb.block b (by have := h.sz; omega)
theorem Own2.grown {row : Option Nat} (h : Own2 w lo hi g g' n n' ms rs) (hg : w.grownBy w' row) (hr : ∀ x, row = some x → x < lo ∨ hi ≤ x) : Own2 w' lo hi g g' n n' ms rs :=
  h.keep hg.size fun b hb hl => hg.block b (by have := h.sz; omega) (fun e => by have := hr b e.symm; omega)
theorem Own2.months {l : List Mth} (h : Own2 w lo hi g g' n n' (l.map mT) rs) : Months w w.heap.size (some ⟨g, 0, none⟩) n l := Own3.tri h.m (Nat.le_refl _)
theorem Own2.rules {l : List Rul} (h : Own2 w lo hi g g' n n' ms (l.map rT)) : Rules w w.heap.size (some ⟨g', 0, none⟩) n' l := Own3.tri h.r (Nat.le_refl _)
end
/-- a call gives a new calendar -/
def NewCal (w : World) (nm : ByteArray) (n n' : Nat) (ms : List Mth) (rs : List Rul) (we : Int) (e : Ending) (w' : World) : Prop := ∃ g g', e = .returned (.agg #[.string nm, .slice (some ⟨g, 0, none⟩) n n, .slice (some ⟨g', 0, none⟩) n' n', .int .i64 we]) ∧ Own2 w' w.heap.size w'.heap.size g g' n n' (ms.map mT) (rs.map rT) ∧ Below w.heap.size w w'
set_option maxHeartbeats 2000000 in
theorem toCalendar_any (nm : ByteArray) (A A' : Option Addr) (n n' c c' B : Nat) (ms : List Mth) (rs : List Rul) (we : Int) (w : World) (h : Months w B A n ms) (h' : Rules w B A' n' rs) (hB : B ≤ w.heap.size) (hn : n ≤ 1048576) (hn' : n' ≤ 1048576) :
    Calls Try.prog 16 #[.agg #[.string nm, .slice A n c, .slice A' n' c', .int .i64 we]] w fun e w' => NewCal w nm n n' ms rs we e w' := by
  have H := Lib.hid (Tri.more h hB)
  have H' := Lib.hid (Tri.more h' hB)
  clear h h'
  go_enter Try.func16, Try.ntmps16
  go_wp2_with fail
  refine (toMonthS_any A n c w.heap.size ms _ (Tri.below H.out (by (repeat (first | with_reducible exact Below.refl _ _ | with_reducible refine below_alloc ?_ _ | with_reducible refine below_drewN ?_ _ | with_reducible refine Below.drew ?_ | ((with_reducible refine below_set ?_ ?_ _); rotate_left; (focus (first | (simp; done) | (simp; omega) | omega))) | with_reducible refine below_call ?_ (by assumption))))) (by simp; omega) hn).mono ?_
  rintro e w1 ⟨rfl, ho1, hb1⟩
  obtain ⟨hc1, hf1, hs1⟩ := bcell hb1
  have O1 := Lib.hid ho1
  have z1 := hb1.size
  simp at z1
  clear ho1
  have l0 : w.heap.size < w1.heap.size := by omega
  have l1 : w.heap.size + 1 < w1.heap.size := by omega
  have l2 : w.heap.size + 1 + 1 < w1.heap.size := by omega
  have BB1 : Below w.heap.size w w1 := by (repeat (first | with_reducible exact Below.refl _ _ | with_reducible refine below_alloc ?_ _ | with_reducible refine below_drewN ?_ _ | with_reducible refine Below.drew ?_ | ((with_reducible refine below_set ?_ ?_ _); rotate_left; (focus (first | (simp; done) | (simp; omega) | omega))) | with_reducible refine below_call ?_ (by assumption)))
  go_wp2_with fail
  refine (toLeapRuleS_any A' n' c' w.heap.size rs _ (Tri.below H'.out (by (repeat (first | with_reducible exact Below.refl _ _ | with_reducible refine below_alloc ?_ _ | with_reducible refine below_drewN ?_ _ | with_reducible refine Below.drew ?_ | ((with_reducible refine below_set ?_ ?_ _); rotate_left; (focus (first | (simp; done) | (simp; omega) | omega))) | with_reducible refine below_call ?_ (by assumption))))) (by simp; omega) hn').mono ?_
  rintro e w2 ⟨rfl, ho2, hb2⟩
  obtain ⟨hc2, hf2, hs2⟩ := bcell hb2
  have O2 := Lib.hid ho2
  have z2 := hb2.size
  simp at z2
  clear ho2
  have k0 : w.heap.size < w2.heap.size := by omega
  have k1 : w.heap.size + 1 < w2.heap.size := by omega
  have k2 : w.heap.size + 1 + 1 < w2.heap.size := by omega
  go_wp2
  refine bodyPost_ret (v := .agg #[.string nm, .slice (some ⟨w.heap.size + 1 + 1 + 1, 0, none⟩) n n, .slice (some ⟨w1.heap.size, 0, none⟩) n' n', .int .i64 we]) ?_ rfl ⟨w.heap.size + 1 + 1 + 1, w1.heap.size, rfl, ?_, ?_⟩
  · simp [results, Try.results16, go_sem, hc1, hf1, hs1, hc2, hf2, hs2, *]
  · have h1 : Own3 w1 106 w.heap.size (some ⟨w.heap.size + 1 + 1 + 1, 0, none⟩) n n (ms.map mT) := by
      have := O1.out
      simp [go_sem] at this
      exact Own3.low this (by omega)
    have h2 : Own3 w2 132 w1.heap.size (some ⟨w1.heap.size, 0, none⟩) n' n' (rs.map rT) := by
      have := O2.out
      simp [go_sem] at this
      exact this
    obtain ⟨_, p1⟩ := h1.lt
    obtain ⟨_, p2⟩ := h2.lt
    have hk : w2.heap[w.heap.size + 1 + 1 + 1]? = w1.heap[w.heap.size + 1 + 1 + 1]? := by
      rw [hb2.block _ (by simpa using p1)]
      simp [Below.heap_setCell]
    have h1' := Own3.block h1 hk
    refine ⟨by omega, by omega, by simp; omega, Nat.le_refl _, ?_, ?_⟩
    · refine Own3.block h1' ?_
      repeat (first | with_reducible rfl | (refine (Below.heap_setCell _ _ _ _ (by simp <;> omega)).trans ?_))
    · refine Own3.up (Own3.block h2 ?_) (by omega)
      repeat (first | with_reducible rfl | (refine (Below.heap_setCell _ _ _ _ (by simp <;> omega)).trans ?_))
  · (repeat (first | with_reducible exact Below.refl _ _ | with_reducible refine below_alloc ?_ _ | with_reducible refine below_drewN ?_ _ | with_reducible refine Below.drew ?_ | ((with_reducible refine below_set ?_ ?_ _); rotate_left; (focus (first | (simp; done) | (simp; omega) | omega))) | with_reducible refine below_call ?_ (by assumption)))
end Go.Proofs.Ythjldjbblaioaaa
