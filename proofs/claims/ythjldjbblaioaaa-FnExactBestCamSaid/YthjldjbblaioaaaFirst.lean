/- The program's FirstWrong: the number of nights after which a work shows a wrong day. No conditions but that a cam has at most 2^20 levels, and a calendar at most 2^20 months and rules. -/
import Derived.Test.YthjldjbblaioaaaNext
import Derived.Test.YthjldjbblaioaaaNight
namespace Go.Proofs.Ythjldjbblaioaaa
open Go.RowKit
set_option linter.unusedVariables false
set_option linter.unusedSimpArgs false
/-! ## The plain side -/
/-- the day behind a day -/
def nextS (ms : List Mth) (rs : List Rul) (n n' : Nat) (s : Int × Int × Int) : Int × Int × Int := (nextY n (dayK ms rs n' s.1 s.2.1) s.1 s.2.1 s.2.2, nextM n (dayK ms rs n' s.1 s.2.1) s.2.1 s.2.2, nextD (dayK ms rs n' s.1 s.2.1) s.2.2)
def datesS (ms : List Mth) (rs : List Rul) (n n' : Nat) : Nat → Int × Int × Int → Int × Int × Int
  | 0, s => s
  | j + 1, s => nextS ms rs n n' (datesS ms rs n n' j s)
/-- the first number from s on of which P holds, or s + f -/
def fstB (P : Nat → Bool) : Nat → Nat → Nat
  | 0, s => s
  | f + 1, s => if P s then s else fstB P f (s + 1)
theorem fstB_miss {P : Nat → Bool} (f s : Nat) (h : ∀ i, s ≤ i → i < s + f → P i = false) : fstB P f s = s + f := by
  induction f generalizing s with
  | zero => rfl
  | succ f ih =>
    rw [fstB, if_neg (by rw [h s (Nat.le_refl _) (by omega)]; decide), ih (s + 1) (fun i h1 h2 => h i (by omega) (by omega))]; omega
theorem fstB_hit {P : Nat → Bool} (f s j : Nat) (hs : s ≤ j) (hj : j < s + f) (h : ∀ i, s ≤ i → i < j → P i = false) (hP : P j = true) : fstB P f s = j := by
  induction f generalizing s with
  | zero => omega
  | succ f ih =>
    rw [fstB]
    by_cases e : s = j
    · subst e; rw [if_pos hP]
    · rw [if_neg (by rw [h s (Nat.le_refl _) (by omega)]; decide)]
      exact ih (s + 1) (by omega) (by omega) (fun i h1 h2 => h i (by omega) h2)
section
variable {ms : List Mth} {rs : List Rul} {n n' : Nat} {zs : List Int} {l : Nat} {mo te we : Int} {q : Nat × Int × Int} {s : Int × Int × Int}
/-- night j is the last one that is looked at -/
def stopB (ms : List Mth) (rs : List Rul) (n n' : Nat) (zs : List Int) (l : Nat) (mo te we : Int) (q : Nat × Int × Int) (s : Int × Int × Int) (j : Nat) : Bool :=
  !(inB (datesS ms rs n n' j s).1 0 9999 && showB mo ((nightsS zs l te we j q).1 : Int) (nightsS zs l te we j q).2.1 (datesS ms rs n n' j s).2.1 (datesS ms rs n n' j s).2.2)
/-- what is answered behind the tests -/
def fwOut (ms : List Mth) (rs : List Rul) (n n' : Nat) (zs : List Int) (l : Nat) (mo te we : Int) (q : Nat × Int × Int) (s : Int × Int × Int) (N : Nat) : Value :=
  if fstB (stopB ms rs n n' zs l mo te we q s) N 1 ≤ N && inB (datesS ms rs n n' (fstB (stopB ms rs n n' zs l mo te we q s) N 1) s).1 0 9999 then .tuple #[.int .i64 (fstB (stopB ms rs n n' zs l mo te we q s) N 1 : Int), .int .i64 0] else .tuple #[.int .i64 0, .int .i64 3]
theorem fw_miss {N : Nat} (h : ∀ i, 1 ≤ i → i ≤ N → stopB ms rs n n' zs l mo te we q s i = false) : Value.tuple #[.int .i64 0, .int .i64 3] = fwOut ms rs n n' zs l mo te we q s N := by
  unfold fwOut
  rw [fstB_miss N 1 (fun i h1 h2 => h i h1 (by omega)), if_neg (by simp; omega)]
theorem fw_end {N j : Nat} (h1 : 1 ≤ j) (hj : j ≤ N) (h : ∀ i, 1 ≤ i → i < j → stopB ms rs n n' zs l mo te we q s i = false) (hy : inB (datesS ms rs n n' j s).1 0 9999 = false) : Value.tuple #[.int .i64 0, .int .i64 3] = fwOut ms rs n n' zs l mo te we q s N := by
  unfold fwOut
  rw [fstB_hit N 1 j h1 (by omega) h (by unfold stopB; rw [hy]; rfl), hy, if_neg (by simp)]
theorem fw_hit {N j : Nat} (h1 : 1 ≤ j) (hj : j ≤ N) (h : ∀ i, 1 ≤ i → i < j → stopB ms rs n n' zs l mo te we q s i = false) (hy : inB (datesS ms rs n n' j s).1 0 9999 = true) (hs : showB mo ((nightsS zs l te we j q).1 : Int) (nightsS zs l te we j q).2.1 (datesS ms rs n n' j s).2.1 (datesS ms rs n n' j s).2.2 = false) : Value.tuple #[.int .i64 (j : Int), .int .i64 0] = fwOut ms rs n n' zs l mo te we q s N := by
  unfold fwOut
  rw [fstB_hit N 1 j h1 (by omega) h (by unfold stopB; rw [hy, hs]; rfl), hy, if_pos (by simp; omega)]
theorem fw_go {j : Nat} (hy : inB (datesS ms rs n n' j s).1 0 9999 = true) (hs : showB mo ((nightsS zs l te we j q).1 : Int) (nightsS zs l te we j q).2.1 (datesS ms rs n n' j s).2.1 (datesS ms rs n n' j s).2.2 = true) : stopB ms rs n n' zs l mo te we q s j = false := by unfold stopB; rw [hy, hs]; rfl
theorem next_ok {nm : ByteArray} {cw : Int} {y m d : Int} (hv : vCal nm n n' ms rs cw = true) (h : dOk ms rs n n' y m d = true) (hy : inB (nextY n (dayK ms rs n' y m) y m d) 0 9999 = true) :
    dOk ms rs n n' (nextY n (dayK ms rs n' y m) y m d) (nextM n (dayK ms rs n' y m) m d) (nextD (dayK ms rs n' y m) d) = true := by
  obtain ⟨⟨y0, y1⟩, ⟨m1, m2⟩, d1, d2⟩ := dOk_yes h
  obtain ⟨_, _, _, _, ⟨n1, n2⟩, _⟩ := vCal_yes hv
  unfold dOk
  rw [hy]
  by_cases h1 : dayK ms rs n' y m < d + 1
  · by_cases h2 : (n : Int) < m + 1
    · have e1 : nextY n (dayK ms rs n' y m) y m d = y + 1 := by rw [nextY, if_pos h1, if_pos h2]
      have e2 : nextM n (dayK ms rs n' y m) m d = 1 := by rw [nextM, if_pos h1, if_pos h2]
      have e3 : nextD (dayK ms rs n' y m) d = 1 := by rw [nextD, if_pos h1]
      rw [e1, e2, e3]
      have := dayK_bd (y := y + 1) (m := 1) hv (by omega) (by omega)
      rw [inB_mk (show (1 : Int) ≤ 1 by omega) (by omega), inB_mk (show (1 : Int) ≤ 1 by omega) (by omega)]; rfl
    · have e1 : nextY n (dayK ms rs n' y m) y m d = y := by rw [nextY, if_pos h1, if_neg h2]
      have e2 : nextM n (dayK ms rs n' y m) m d = m + 1 := by rw [nextM, if_pos h1, if_neg h2]
      have e3 : nextD (dayK ms rs n' y m) d = 1 := by rw [nextD, if_pos h1]
      rw [e1, e2, e3]
      have := dayK_bd (y := y) (m := m + 1) hv (by omega) (by omega)
      rw [inB_mk (show (1 : Int) ≤ m + 1 by omega) (by omega), inB_mk (show (1 : Int) ≤ 1 by omega) (by omega)]; rfl
  · have e1 : nextY n (dayK ms rs n' y m) y m d = y := by rw [nextY, if_neg h1]
    have e2 : nextM n (dayK ms rs n' y m) m d = m := by rw [nextM, if_neg h1]
    have e3 : nextD (dayK ms rs n' y m) d = d + 1 := by rw [nextD, if_neg h1]
    rw [e1, e2, e3, inB_mk m1 m2, inB_mk (show (1 : Int) ≤ d + 1 by omega) (by omega)]; rfl
end
def fwT (nm : ByteArray) (n n' : Nat) (ms : List Mth) (rs : List Rul) (cw : Int) (zs : List Int) (l : Nat) (mo te ix da we wd : Int) (y m d nights : Int) : Value :=
  if vCal nm n n' ms rs cw && vPerp zs l mo te ix da we wd then
    if dOk ms rs n n' y m d && inB nights 0 200000 then
      if showB mo ix da m d then fwOut ms rs n n' zs l mo te we (ix.toNat, da, wd) (y, m, d) nights.toNat else .tuple #[.int .i64 0, .int .i64 6]
    else .tuple #[.int .i64 0, .int .i64 2]
  else .tuple #[.int .i64 0, .int .i64 1]
theorem fwT_form (nm : ByteArray) (n n' : Nat) (ms : List Mth) (rs : List Rul) (cw : Int) (zs : List Int) (l : Nat) (mo te ix da we wd : Int) (y m d nights : Int) : ∃ a b : Int, fwT nm n n' ms rs cw zs l mo te ix da we wd y m d nights = .tuple #[.int .i64 a, .int .i64 b] := by
  unfold fwT fwOut
  split
  · split
    · split
      · split <;> exact ⟨_, _, rfl⟩
      · exact ⟨_, _, rfl⟩
    · exact ⟨_, _, rfl⟩
  · exact ⟨_, _, rfl⟩
section
variable {nm : ByteArray} {n n' : Nat} {ms : List Mth} {rs : List Rul} {cw : Int} {zs : List Int} {l : Nat} {mo te ix da we wd y m d nights : Int}
theorem fwT_1 (h : (vCal nm n n' ms rs cw && vPerp zs l mo te ix da we wd) = false) : fwT nm n n' ms rs cw zs l mo te ix da we wd y m d nights = .tuple #[.int .i64 0, .int .i64 1] := by rw [fwT, h]; rfl
theorem fwT_2 (h : (vCal nm n n' ms rs cw && vPerp zs l mo te ix da we wd) = true) (h2 : (dOk ms rs n n' y m d && inB nights 0 200000) = false) : fwT nm n n' ms rs cw zs l mo te ix da we wd y m d nights = .tuple #[.int .i64 0, .int .i64 2] := by rw [fwT, h, h2]; rfl
theorem fwT_6 (h : (vCal nm n n' ms rs cw && vPerp zs l mo te ix da we wd) = true) (h2 : (dOk ms rs n n' y m d && inB nights 0 200000) = true) (h3 : showB mo ix da m d = false) : fwT nm n n' ms rs cw zs l mo te ix da we wd y m d nights = .tuple #[.int .i64 0, .int .i64 6] := by rw [fwT, h, h2, h3]; rfl
theorem fwT_0 {k N : Nat} (h : (vCal nm n n' ms rs cw && vPerp zs l mo te (k : Int) da we wd) = true) (h2 : (dOk ms rs n n' y m d && inB (N : Int) 0 200000) = true) (h3 : showB mo (k : Int) da m d = true) : fwT nm n n' ms rs cw zs l mo te (k : Int) da we wd y m d (N : Int) = fwOut ms rs n n' zs l mo te we (k, da, wd) (y, m, d) N := by rw [fwT, h, h2, h3]; rfl
end
theorem ret_val' {a b : Value} (h : a = b) : Ending.returned a = .returned b := by rw [h]
theorem DatAt.grown {w w' : World} {g k : Nat} {y m d : Int} (h : DatAt w g y m d) (hg : w.grownBy w' (some k)) (hk : k ≠ g) : DatAt w' g y m d := h.keep (hg.block g h.lt (fun e => hk (by first | exact (Option.some.inj e).symm | exact Option.some.inj e)))
theorem CalAt.grown {w w' : World} {g k : Nat} {nm : ByteArray} {A A' : Option Addr} {n n' c c' : Nat} {we : Int} (h : CalAt w g nm A A' n n' c c' we) (hg : w.grownBy w' (some k)) (hk : k ≠ g) : CalAt w' g nm A A' n n' c c' we := by
  have hh := hg.block g h.lt (fun e => hk (by first | exact (Option.some.inj e).symm | exact Option.some.inj e))
  have hc : ∀ o, w'.cell? ⟨g, o, none⟩ = w.cell? ⟨g, o, none⟩ := fun o => World.cell?_of_block (w := w) hh
  exact ⟨Nat.lt_of_lt_of_le h.lt hg.size, (hc 0).trans h.c0, (hc 1).trans h.c1, (hc 2).trans h.c2, (hc 3).trans h.c3⟩
/-- the calendar, the work and the date of the call, each in its block -/
structure FW (w W : World) (gp : Nat) (nm : ByteArray) (A A' : Option Addr) (n n' c c' : Nat) (cw : Int) (S : Value) (mo te ix da we wd y m d : Int) : Prop where
  cal : CalAt W w.heap.size nm A A' n n' c c' cw
  wk : Work W gp S mo te ix da we wd
  dt : DatAt W (w.heap.size + 1 + 1) y m d
  bl : Below w.heap.size w W
section
variable {w W W' : World} {gp : Nat} {nm : ByteArray} {A A' : Option Addr} {n n' c c' : Nat} {cw : Int} {S : Value} {mo te ix da we wd y m d : Int}
theorem FW.call (h : FW w W gp nm A A' n n' c c' cw S mo te ix da we wd y m d) (hb : Below W.heap.size W W') : FW w W' gp nm A A' n n' c c' cw S mo te ix da we wd y m d :=
  ⟨h.cal.call hb, h.wk.call hb, h.dt.call hb, h.bl.trans (hb.mono h.bl.size)⟩
theorem FW.drewN (h : FW w W gp nm A A' n n' c c' cw S mo te ix da we wd y m d) (k : Nat) : FW w (W.drewN k) gp nm A A' n n' c c' cw S mo te ix da we wd y m d :=
  h.call (below_drewN (Below.refl _ _) k)
theorem FW.moved {ix2 da2 wd2 : Int} (h : FW w W gp nm A A' n n' c c' cw S mo te ix da we wd y m d) (hW : Work W' gp S mo te ix2 da2 we wd2) (hg : W.grownBy W' (some gp)) (h1 : w.heap.size < gp) (h2 : gp ≠ w.heap.size + 1 + 1) : FW w W' gp nm A A' n n' c c' cw S mo te ix2 da2 we wd2 y m d :=
  ⟨h.cal.grown hg (by omega), hW, h.dt.grown hg h2, below_only h.bl hg h.bl.size (by omega)⟩
theorem FW.date (h : FW w W gp nm A A' n n' c c' cw S mo te ix da we wd y m d) (h2 : gp ≠ w.heap.size + 1 + 1) (a b c0 : Int) : FW w (((W.setCell ⟨w.heap.size + 1 + 1, 0, none⟩ (.int .i64 a)).setCell ⟨w.heap.size + 1 + 1, 1, none⟩ (.int .i64 b)).setCell ⟨w.heap.size + 1 + 1, 2, none⟩ (.int .i64 c0)) gp nm A A' n n' c c' cw S mo te ix da we wd a b c0 := by
  have hh : ∀ b', b' ≠ w.heap.size + 1 + 1 → (((W.setCell ⟨w.heap.size + 1 + 1, 0, none⟩ (.int .i64 a)).setCell ⟨w.heap.size + 1 + 1, 1, none⟩ (.int .i64 b)).setCell ⟨w.heap.size + 1 + 1, 2, none⟩ (.int .i64 c0)).heap[b']? = W.heap[b']? := fun b' hb => by
    rw [Below.heap_setCell _ _ _ _ hb, Below.heap_setCell _ _ _ _ hb, Below.heap_setCell _ _ _ _ hb]
  have hc : ∀ o, (((W.setCell ⟨w.heap.size + 1 + 1, 0, none⟩ (.int .i64 a)).setCell ⟨w.heap.size + 1 + 1, 1, none⟩ (.int .i64 b)).setCell ⟨w.heap.size + 1 + 1, 2, none⟩ (.int .i64 c0)).cell? ⟨w.heap.size, o, none⟩ = W.cell? ⟨w.heap.size, o, none⟩ := fun o => World.cell?_of_block (w := W) (hh w.heap.size (by omega))
  have hcal := h.cal
  exact ⟨⟨by simpa using hcal.lt, (hc 0).trans hcal.c0, (hc 1).trans hcal.c1, (hc 2).trans hcal.c2, (hc 3).trans hcal.c3⟩, h.wk.keep (hh _ h2), ((h.dt.set0 a).set1 b).set2 c0, ((h.bl.setCell (by simp; omega) _).setCell (by simp; omega) _).setCell (by simp; omega) _⟩
theorem FW.start {L : Option Addr} {l e : Nat} (w : World) (t t2 t3 : TypeId) (nm : ByteArray) (A A' : Option Addr) (n n' c c' : Nat) (cw : Int) (mo te ix da we wd y m d : Int) :
    FW w (((w.alloc (.cells #[.string nm, .slice A n c, .slice A' n' c', .int .i64 cw] t)).alloc (.cells #[.slice L l e, .int .i64 mo, .int .i64 te, .int .i64 ix, .int .i64 da, .int .i64 we, .int .i64 wd] t2)).alloc (.cells #[.int .i64 y, .int .i64 m, .int .i64 d] t3)) (w.heap.size + 1) nm A A' n n' c c' cw (.slice L l e) mo te ix da we wd y m d := by
  have hw := work_new (w.alloc (.cells #[.string nm, .slice A n c, .slice A' n' c', .int .i64 cw] t)) t2 (.slice L l e) mo te ix da we wd
  have hd := dat_new ((w.alloc (.cells #[.string nm, .slice A n c, .slice A' n' c', .int .i64 cw] t)).alloc (.cells #[.slice L l e, .int .i64 mo, .int .i64 te, .int .i64 ix, .int .i64 da, .int .i64 we, .int .i64 wd] t2)) t3 y m d
  have z1 : (w.alloc (.cells #[.string nm, .slice A n c, .slice A' n' c', .int .i64 cw] t)).heap.size = w.heap.size + 1 := by simp
  exact ⟨(cal_new w t nm A A' n n' c c' cw).below (B := w.heap.size + 1) (by omega) (((Below.refl (w.heap.size + 1) (w.alloc (.cells #[.string nm, .slice A n c, .slice A' n' c', .int .i64 cw] t))).alloc (by simp) _).alloc (by simp) _), Work.alloc (by simpa using hw) _, by simpa using hd, (((Below.refl w.heap.size w).alloc (Nat.le_refl _) _).alloc (by simp) _).alloc (by simp; omega) _⟩
end
end Go.Proofs.Ythjldjbblaioaaa
