/- Rows of faults (structs of four numbers) of a call's own, and appends to them. No conditions but that a row stays below 2^30 elements. -/
import Derived.Test.YthjldjbblaioaaaAsk
import Derived.Test.YthjldjbblaioaaaApp
import Derived.Deep.Upon
namespace Go.Proofs.Ythjldjbblaioaaa
open Go.RowKit
set_option linter.unusedVariables false
set_option linter.unusedSimpArgs false
/-- a fault of a cam -/
structure Flt where
  yr : Int
  mo : Int
  sh : Int
  ri : Int
def fT (f : Flt) : List Value := [.int .i64 f.yr, .int .i64 f.mo, .int .i64 f.sh, .int .i64 f.ri]
def f0 : Flt := ⟨0, 0, 0, 0⟩
def flatF (fs : List Flt) : List Value := fs.flatMap fT
theorem flatF_app (a b : List Flt) : flatF (a ++ b) = flatF a ++ flatF b := by simp [flatF]
theorem flatF_len : ∀ fs : List Flt, (flatF fs).length = 4 * fs.length
  | [] => rfl
  | f :: fs => by
    have : flatF (f :: fs) = fT f ++ flatF fs := by simp [flatF]
    rw [this, List.length_append, flatF_len fs]; simp [fT]; omega
theorem flatF_one (fs : List Flt) : ∀ u ∈ flatF fs, u.oneCell' = true := by
  intro u hu
  simp only [flatF, List.mem_flatMap] at hu
  obtain ⟨f, _, hf⟩ := hu
  simp [fT] at hf
  rcases hf with h | h | h | h <;> subst h <;> rfl
theorem flatF_at : ∀ (fs : List Flt) (k : Nat), k < fs.length → (flatF fs)[k * 4]? = some (.int .i64 (fs.getD k f0).yr) ∧ (flatF fs)[k * 4 + 1]? = some (.int .i64 (fs.getD k f0).mo) ∧ (flatF fs)[k * 4 + 2]? = some (.int .i64 (fs.getD k f0).sh) ∧ (flatF fs)[k * 4 + 3]? = some (.int .i64 (fs.getD k f0).ri)
  | [], k, h => by simp at h
  | e :: es, 0, _ => ⟨rfl, rfl, rfl, rfl⟩
  | e :: es, k + 1, h => by
    have ih := flatF_at es k (by simpa using h)
    have e1 : (k + 1) * 4 = k * 4 + 4 := by omega
    rw [e1]
    exact ih
def OwnF (w : World) (base : Nat) (A : Option Addr) (n c : Nat) (fs : List Flt) : Prop := w.ownsRow base 64 4 (.slice A n c) n (flatF fs)
section
variable {w w' : World} {base n c : Nat} {A : Option Addr} {fs : List Flt}
theorem OwnF.len (h : OwnF w base A n c fs) : fs.length = n := by have := h.1; rw [flatF_len] at this; omega
theorem OwnF.nil_ : OwnF w base none 0 0 [] := World.ownsRow_nil w base _ 4
theorem OwnF.call (h : OwnF w base A n c fs) (hb : Below w.heap.size w w') : OwnF w' base A n c fs := own_call h hb
theorem OwnF.low (h : OwnF w base A n c fs) {b0 : Nat} (hb : b0 ≤ base) : OwnF w b0 A n c fs := by
  refine ⟨h.1, ?_⟩
  rcases h.2 with h0 | ⟨g2, cap, cur, e2, hb2, hg, hr⟩
  · exact .inl h0
  · exact .inr ⟨g2, cap, cur, e2, by omega, hg, hr⟩
theorem OwnF.form (h : OwnF w base A n c fs) : (A = none ∧ n = 0 ∧ c = 0) ∨ ∃ g, A = some ⟨g, 0, none⟩ ∧ base ≤ g ∧ g < w.heap.size ∧ n ≤ c := by
  rcases h.2 with ⟨h0, h1⟩ | ⟨g2, cap, cur, e2, hb2, hg, hr⟩
  · injection h0 with e1 e2 e3
    exact .inl ⟨e1, h1, e3⟩
  · injection e2 with e3 e4 e5
    subst e3
    exact .inr ⟨g2, rfl, hb2, (Array.getElem?_eq_some_iff.1 hg).1, by rw [e5]; exact hr.1⟩
theorem ownF_append {v' : Value} {m : Nat} {gs : List Flt} (h : w.ownsRow base 64 4 v' (n + m) (flatF fs ++ flatF gs)) (hm : 1 ≤ m) : ∃ A' c', v' = .slice A' (n + m) c' ∧ OwnF w base A' (n + m) c' (fs ++ gs) := by
  rcases h.2 with ⟨_, h0⟩ | ⟨g, cap, cur, e, _⟩
  · omega
  · refine ⟨_, _, e, ?_⟩
    subst e
    unfold OwnF
    rw [flatF_app]; exact h
end
theorem info_fault : (Try.prog.info? 64).map (fun i => (i.zero, i.size, i.bytes)) = some (some (.agg #[.int .i64 0, .int .i64 0, .int .i64 0, .int .i64 0]), 4, 32) := by kernel_rfl
/-- append of m ≥ 1 faults that lie in a row -/
theorem wpList_appF {ops : Array Oper} {rest : List Oper} {o : Oper} {a : Act} {Q : Exit → Act → World → Prop} (hgd : o.guard = none) (s x : Operand)
    (ho : o.op = .call { callee := .builtin .append, args := #[s, x], argTypes := #[67, 67] })
    (w : World) (base : Nat) (A : Option Addr) (n c : Nat) (fs gs : List Flt) (hs : a.eval s = .slice A n c) (hown : OwnF w base A n c fs) (g m mc : Nat) (hx : a.eval x = .slice (some ⟨g, 0, none⟩) m mc) (hg : gs.length = m) (hm : 1 ≤ m)
    (hcell : ∀ j u, (flatF gs)[j]? = some u → w.cell? ⟨g, j, none⟩ = some u) (hn : n + m ≤ 1000000000) (hb : base ≤ w.heap.size)
    (h : ∀ A' c' w', OwnF w' base A' (n + m) c' (fs ++ gs) → Below base w w' → wpList Try.prog ops Q rest (a.put o.dst (.slice A' (n + m) c')) w') : wpList Try.prog ops Q (o :: rest) a w := by
  obtain ⟨i0, hi, hz0, hz1, hz2⟩ := info_parts info_fault
  refine wpList_append_own_at (P := Try.prog) w hgd s x 67 ho base 64 i0 (.agg #[.int .i64 0, .int .i64 0, .int .i64 0, .int .i64 0]) 4 32 Try.underlying67 hi hz0 hz1 hz2 rfl (by omega) (.slice A n c) n (flatF fs) hs hown ⟨g, 0, none⟩ m mc (flatF gs) hx (by rw [flatF_len]; omega)
    (fun j u hj => ?_) (flatF_one gs) (by simp only [maxLen]; omega) (by omega) hb (fun v' w' h1 h2 _ _ => ?_)
  · have := hcell j u hj
    have e : (⟨g, 0, none⟩ : Addr).add j = ⟨g, j, none⟩ := by unfold Addr.add; split <;> simp_all
    rw [e]; exact this
  · obtain ⟨A', c', rfl, h3⟩ := ownF_append h1 hm
    refine h A' c' w' h3 ((Below.refl base w).grown h2 hb (fun k hk => ?_))
    rcases hown.form with ⟨rfl, _⟩ | ⟨g', rfl, hg', _⟩
    · simp [Value.ownBlock] at hk
    · simp [Value.ownBlock] at hk; omega
/-- append of any row of faults of the call's own -/
theorem wpList_appFs {ops : Array Oper} {rest : List Oper} {o : Oper} {a : Act} {Q : Exit → Act → World → Prop} (hgd : o.guard = none) (s x : Operand)
    (ho : o.op = .call { callee := .builtin .append, args := #[s, x], argTypes := #[67, 67] })
    (w : World) (base base' : Nat) (A X : Option Addr) (n c m mc : Nat) (fs gs : List Flt) (hs : a.eval s = .slice A n c) (hown : OwnF w base A n c fs) (hx : a.eval x = .slice X m mc) (hy : OwnF w base' X m mc gs)
    (hn : n + m ≤ 1000000000) (hb : base ≤ w.heap.size)
    (h : ∀ A' c' w', OwnF w' base A' (n + m) c' (fs ++ gs) → Below base w w' → wpList Try.prog ops Q rest (a.put o.dst (.slice A' (n + m) c')) w') : wpList Try.prog ops Q (o :: rest) a w := by
  obtain ⟨i0, hi, hz0, hz1, hz2⟩ := info_parts info_fault
  by_cases hm : m = 0
  · subst hm
    have hys : gs = [] := List.length_eq_zero_iff.mp hy.len
    subst hys
    have hle : n ≤ c := by rcases hown.form with ⟨_, h1, _⟩ | ⟨_, _, _, _, h1⟩ <;> omega
    refine wpList_plain hgd fun K hK => ?_
    have hr : (Builtin.append_ #[67, 67] o.type #[.slice A n c, .slice X 0 mc]).run Try.prog w = .ok (.slice A n c) w := by
      cases X with
      | none => exact run_append_nothing w 67 67 o.type 64 i0 Try.underlying67 hi A n c hle _ (_root_.Go.Src.ofNil (P := Try.prog) w Try.underlying67 mc)
      | some ad => exact run_append_nothing w 67 67 o.type 64 i0 Try.underlying67 hi A n c hle _ (_root_.Go.Src.ofSlice (P := Try.prog) w Try.underlying67 ad 0 mc [] (by simp) (fun j u hj => by simp at hj) (fun u hu => by simp at hu))
    unfold Oper.wp execOp
    simp only [ho, resolve, invoke, builtin, Sem.run_bind, Sem.run_pure, Result.andThen_ok, List.map_toArray, List.map_cons, List.map_nil, hs, hx, hr]
    exact hK _ _ (h A c w (by simpa using hown) (Below.refl _ _))
  · rcases hy.form with ⟨_, h1, _⟩ | ⟨g, rfl, _, _, _⟩
    · omega
    · refine wpList_appF hgd s x ho w base A n c fs gs hs hown g m mc hx hy.len (by omega) (fun j u hj => ?_) hn hb h
      have hjl : j < (flatF gs).length := (List.getElem?_eq_some_iff.1 hj).1
      rw [flatF_len, hy.len] at hjl
      rw [World.ownsRow.cellAt hy j (by omega)]; exact hj
end Go.Proofs.Ythjldjbblaioaaa
