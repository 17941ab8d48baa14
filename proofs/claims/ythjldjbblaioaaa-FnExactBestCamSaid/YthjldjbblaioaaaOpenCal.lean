/- How the data of a law's arguments read: calendars and faults. No conditions. -/
import Derived.Test.YthjldjbblaioaaaOpenPerp
import Derived.Test.YthjldjbblaioaaaTri
namespace Go.Proofs.Ythjldjbblaioaaa
open Go.ChangeShapes Go.WideShapes Go.ChangeAt Go.RowKit Go.Joins
set_option linter.unusedVariables false
set_option linter.unusedSimpArgs false
section
variable {H : Type} {enc : TypeId × Value → H} {W : World} {base : Nat} {sp : Nat → Bool} {hd : Bool}
/-- three cells on one another's heels -/
theorem three_cells {a : Addr} {v0 v1 v2 : Value} (h : W.cells? base a 3 = some [v0, v1, v2]) : ∃ b off, a = ⟨b, off, none⟩ ∧ W.cell? ⟨b, off, none⟩ = some v0 ∧ W.cell? ⟨b, off + 1, none⟩ = some v1 ∧ W.cell? ⟨b, off + 2, none⟩ = some v2 := by
  have hc := (World.cells?_some h).2.2
  have h0 := hc 0 (by omega)
  have h1 := hc 1 (by omega)
  have h2 := hc 2 (by omega)
  obtain ⟨b, off, spot⟩ := a
  have hspot : spot = none := by simpa [Addr.add] using World.cell?_spot h0
  subst hspot
  rw [add_plain] at h0 h1 h2
  exact ⟨b, off, rfl, by simpa using h0, by simpa using h1, by simpa using h2⟩
/-- a slice of structs of three cells reads as a row of some X -/
theorem came3 {X : Type} {x0 : X} {tx : X → T3} {good : X → Prop} {fuel : Nat} {ts t : TypeId} {cs : List Value} {x : DataW H × List MemPlace} (ht : Try.prog.underlying ts = some (.slice t)) (hsz : Try.prog.cellsOf t = 3)
    (hel : ∀ n cs' y, DataW.trod enc Try.prog W base sp hd n t cs' = some y → ∃ m : X, cs' = [(tx m).1, (tx m).2.1, (tx m).2.2] ∧ good m)
    (hf : DataW.trod enc Try.prog W base sp hd fuel ts cs = some x) :
    ∃ (A : Option Addr) (n c : Nat) (ms : List X), cs = [.slice A n c] ∧ Tri W W.heap.size A n (ms.map tx) ∧ n ≤ c ∧ c ≤ 9223372036854775807 ∧ ∀ j, j < n → good (ms.getD j x0) := by
  rcases DataW.trod_slice ht hf with ⟨hcs, _⟩ | ⟨a, len, cap, elems, rest, n, _, hcs, _, _, hlc, hcm, hel2, hcell, _, _⟩
  · exact ⟨none, 0, 0, [], hcs, Tri.nil_, by omega, by omega, fun j hj => absurd hj (by omega)⟩
  · rw [hsz] at hcell
    have hex : ∀ i, ∃ m : X, i < len → (∃ b off, a.add (i * 3) = ⟨b, off, none⟩ ∧ W.cell? ⟨b, off, none⟩ = some (tx m).1 ∧ W.cell? ⟨b, off + 1, none⟩ = some (tx m).2.1 ∧ W.cell? ⟨b, off + 2, none⟩ = some (tx m).2.2) ∧ good m := by
      intro i
      by_cases hi : i < len
      · have h1 := hcell i hi
        rw [List.getElem?_eq_getElem (by omega)] at h1
        obtain ⟨cs', hc', ht'⟩ := Option.bind_eq_some_iff.1 h1
        obtain ⟨m, rfl, hg⟩ := hel _ _ _ ht'
        exact ⟨m, fun _ => ⟨three_cells hc', hg⟩⟩
      · exact ⟨x0, fun h => absurd h hi⟩
    obtain ⟨f, hff⟩ := Classical.axiomOfChoice hex
    have hat : ∀ j, j < len → (((List.range len).map f).map tx).getD j t0 = tx (f j) := fun j hj => by simp [List.getD_eq_getElem?_getD, hj]
    have hat2 : ∀ j, j < len → ((List.range len).map f).getD j x0 = f j := fun j hj => by simp [List.getD_eq_getElem?_getD, hj]
    refine ⟨some a, len, cap, (List.range len).map f, hcs, ⟨by simp, fun h0 => ?_⟩, hlc, by unfold maxLen at hcm; omega, fun j hj => by rw [hat2 j hj]; exact (hff j hj).2⟩
    obtain ⟨⟨b0, off0, e0, c00, _⟩, _⟩ := hff 0 h0
    obtain ⟨b, off, spot⟩ := a
    have hspot : spot = none := by simpa [Addr.add] using congrArg Addr.spot e0
    subst hspot
    refine ⟨b, off, rfl, ?_, fun j hj => ?_⟩
    · have e1 : b = b0 := by simpa [Addr.add] using congrArg Addr.block e0
      have := World.block_lt_of_cell? W _ c00
      rw [e1]; exact this
    · obtain ⟨⟨bj, offj, ej, k0, k1, k2⟩, _⟩ := hff j hj
      rw [add_plain] at ej
      injection ej with e1 e2 _
      subst e1
      subst e2
      rw [hat j hj]
      exact ⟨k0, k1, k2⟩
theorem cells_month : Try.prog.cellsOf 141 = 3 := by kernel_rfl
theorem cells_rule : Try.prog.cellsOf 147 = 3 := by kernel_rfl
theorem cells_string : Try.prog.cellsOf 9 = 1 := by kernel_rfl
theorem cells_bool : Try.prog.cellsOf 4 = 1 := by kernel_rfl
def mGood (m : Mth) : Prop := m.nm.size ≤ 9223372036854775807 ∧ (Lit.int .i64 m.dy).wf = true ∧ (Lit.int .i64 m.lp).wf = true
def rGood (r : Rul) : Prop := (Lit.int .i64 r.ev).wf = true ∧ (Lit.int .i64 r.rs).wf = true
set_option maxRecDepth 100000 in
theorem el_month (n : Nat) (cs : List Value) (y : DataW H × List MemPlace) (h : DataW.trod enc Try.prog W base sp hd n 141 cs = some y) : ∃ m : Mth, cs = [(mT m).1, (mT m).2.1, (mT m).2.2] ∧ mGood m := by
  obtain ⟨y0, y1, y2, k, h0, h1, h2⟩ := trod_struct3' Try.underlying141 h
  obtain ⟨_, _, _, _, hlen, _⟩ := DataW.trod_struct Try.underlying141 h
  rw [cells_month] at hlen
  match cs, hlen with
  | [c0, c1, c2], _ =>
    simp [cells_int64, cells_string] at h0 h1 h2
    obtain ⟨s, e0, _, w0⟩ := DataW.trod_string Try.underlying9 h0
    obtain ⟨b, e1, _, w1⟩ := DataW.trod_int Try.underlying2 h1
    obtain ⟨z, e2, _, w2⟩ := DataW.trod_int Try.underlying2 h2
    simp at e0 e1 e2
    subst e0 e1 e2
    exact ⟨⟨s, b, z⟩, rfl, by unfold maxLen at w0; exact w0, w1, w2⟩
set_option maxRecDepth 100000 in
theorem el_rule (n : Nat) (cs : List Value) (y : DataW H × List MemPlace) (h : DataW.trod enc Try.prog W base sp hd n 147 cs = some y) : ∃ r : Rul, cs = [(rT r).1, (rT r).2.1, (rT r).2.2] ∧ rGood r := by
  obtain ⟨y0, y1, y2, k, h0, h1, h2⟩ := trod_struct3' Try.underlying147 h
  obtain ⟨_, _, _, _, hlen, _⟩ := DataW.trod_struct Try.underlying147 h
  rw [cells_rule] at hlen
  match cs, hlen with
  | [c0, c1, c2], _ =>
    simp [cells_int64, cells_bool] at h0 h1 h2
    obtain ⟨a, e0, _, w0⟩ := DataW.trod_int Try.underlying2 h0
    obtain ⟨b, e1, _, w1⟩ := DataW.trod_int Try.underlying2 h1
    obtain ⟨z, e2, _⟩ := DataW.trod_bool Try.underlying4 h2
    simp at e0 e1 e2
    subst e0 e1 e2
    exact ⟨⟨a, b, z⟩, rfl, w0, w1⟩
/-- what a law knows of a calendar that came in -/
structure CameCal (W : World) (nm : ByteArray) (A A' : Option Addr) (n n' c c' : Nat) (ms : List Mth) (rs : List Rul) (cw : Int) : Prop where
  m : Months W W.heap.size A n ms
  r : Rules W W.heap.size A' n' rs
  hn : n ≤ 9223372036854775807
  hn' : n' ≤ 9223372036854775807
  hnm : nm.size ≤ 9223372036854775807
  gm : ∀ j, j < n → mGood (ms.getD j m0)
  gr : ∀ j, j < n' → rGood (rs.getD j r0)
  hw : (Lit.int .i64 cw).wf = true
theorem cells_cal : Try.prog.cellsOf 46 = 4 := by kernel_rfl
theorem cells_months : Try.prog.cellsOf 43 = 1 := by kernel_rfl
theorem cells_rules : Try.prog.cellsOf 44 = 1 := by kernel_rfl
theorem trod_struct4' {P : Program} {t : TypeId} {f0 f1 f2 f3 : Field} {fuel : Nat} {cs : List Value} {x : DataW H × List MemPlace} (ht : P.underlying t = some (.struct #[f0, f1, f2, f3])) (h : DataW.trod enc P W base sp hd fuel t cs = some x) :
    ∃ y0 y1 y2 y3 n, DataW.trod enc P W base sp hd n f0.type ((cs.drop f0.offset).take (P.cellsOf f0.type)) = some y0 ∧
      DataW.trod enc P W base sp hd n f1.type ((cs.drop f1.offset).take (P.cellsOf f1.type)) = some y1 ∧ DataW.trod enc P W base sp hd n f2.type ((cs.drop f2.offset).take (P.cellsOf f2.type)) = some y2 ∧
      DataW.trod enc P W base sp hd n f3.type ((cs.drop f3.offset).take (P.cellsOf f3.type)) = some y3 := by
  obtain ⟨xs, n, _, rfl, hl, hlen, hf⟩ := DataW.trod_struct ht h
  match xs, hlen with
  | [y0, y1, y2, y3], _ => exact ⟨y0, y1, y2, y3, n, by simpa using hf 0 f0 rfl, by simpa using hf 1 f1 rfl, by simpa using hf 2 f2 rfl, by simpa using hf 3 f3 rfl⟩
set_option maxRecDepth 100000 in
theorem open_Calendar {r : Reach} {b0 : Nat} {v : Value} {x : DataW H} {p : List MemPlace} (hv : Value.okWide Try.prog W r b0 46 v) (h : DataW.Trod enc Try.prog W base sp hd 46 v x p) :
    ∃ nm A A' n n' c c' ms rs cw, v = .agg #[.string nm, .slice A n c, .slice A' n' c', .int .i64 cw] ∧ CameCal W nm A A' n n' c c' ms rs cw := by
  obtain ⟨cs, rfl, hsz⟩ := okWide_struct Try.underlying46 hv
  obtain ⟨c0, c1, c2, c3, rfl⟩ : ∃ c0 c1 c2 c3, cs = #[c0, c1, c2, c3] := by
    obtain ⟨l⟩ := cs
    match l, hsz.trans cells_cal with
    | [c0, c1, c2, c3], _ => exact ⟨c0, c1, c2, c3, rfl⟩
  obtain ⟨fuel, hf⟩ := h
  obtain ⟨y0, y1, y2, y3, n, h0, h1, h2, h3⟩ := trod_struct4' Try.underlying46 hf
  simp [Value.cells, cells_int64, cells_string, cells_months, cells_rules] at h0 h1 h2 h3
  obtain ⟨s, e0, _, w0⟩ := DataW.trod_string Try.underlying9 h0
  obtain ⟨A, k, c, ms, e1, hM, hkc, hc, hg⟩ := came3 (x0 := m0) (tx := mT) (good := mGood) Try.underlying43 cells_month el_month h1
  obtain ⟨A', k', c', rs, e2, hR, hkc', hc', hg'⟩ := came3 (x0 := r0) (tx := rT) (good := rGood) Try.underlying44 cells_rule el_rule h2
  obtain ⟨z, e3, _, w3⟩ := DataW.trod_int Try.underlying2 h3
  simp at e0 e1 e2 e3
  subst e0 e1 e2 e3
  exact ⟨_, _, _, _, _, _, _, ms, rs, _, rfl, hM, hR, by omega, by omega, by unfold maxLen at w0; exact w0, hg, hg', w3⟩
end
end Go.Proofs.Ythjldjbblaioaaa
