/- The law of append of a list of int64, of none too, to a slice of the call's own. No conditions but that a slice stays below 2^40 elements. -/
import Derived.Test.YtlnoolnbpohjhaaAppM
import Derived.Deep.Upon
namespace Go.Proofs.Ytlnoolnbpohjhaa
open Go.RowKit
set_option linter.unusedVariables false
set_option linter.unusedSimpArgs false
theorem wpList_appAny {ops : Array Oper} {rest : List Oper} {o : Oper} {a : Act} {Q : Exit → Act → World → Prop} (hgd : o.guard = none) (s x : Operand)
    (ho : o.op = .call { callee := .builtin .append, args := #[s, x], argTypes := #[24, 24] })
    (w : World) (base B : Nat) (A X : Option Addr) (n c m cx : Nat) (zs ys : List Int) (hs : a.eval s = .slice A n c) (hx : a.eval x = .slice X m cx) (hown : Own w base A n c zs)
    (hy : Ints w B X m ys) (hn : n + m ≤ 1000000000000) (hb : base ≤ w.heap.size)
    (h : ∀ A' c' w', Own w' base A' (n + m) c' (zs ++ ys) → Below base w w' → wpList Try.prog ops Q rest (a.put o.dst (.slice A' (n + m) c')) w') : wpList Try.prog ops Q (o :: rest) a w := by
  obtain ⟨i0, hi, hz0, hz1, hz2⟩ := info_parts info_int64
  by_cases hm : m = 0
  · subst hm
    have hys : ys = [] := List.length_eq_zero_iff.mp hy.len
    subst hys
    have hle : n ≤ c := by
      rcases hown.2 with ⟨e, h0⟩ | ⟨g, cap, cur, e, hb, hh, h1, h2, h3, h4⟩
      · injection e with e1 e2 e3; omega
      · injection e with e1 e2 e3; subst e3; exact h1
    refine wpList_plain hgd fun K hK => ?_
    have hr : (Builtin.append_ #[24, 24] o.type #[.slice A n c, .slice X 0 cx]).run Try.prog w = .ok (.slice A n c) w := by
      cases X with
      | none => exact run_append_nothing w 24 24 o.type 2 i0 Try.underlying24 hi A n c hle _ (_root_.Go.Src.ofNil (P := Try.prog) w Try.underlying24 cx)
      | some ad => exact run_append_nothing w 24 24 o.type 2 i0 Try.underlying24 hi A n c hle _ (_root_.Go.Src.ofSlice (P := Try.prog) w Try.underlying24 ad 0 cx [] (by simp) (fun j u hj => by simp at hj) (fun u hu => by simp at hu))
    unfold Oper.wp execOp
    simp only [ho, resolve, invoke, builtin, Sem.run_bind, Sem.run_pure, Result.andThen_ok, List.map_toArray, List.map_cons, List.map_nil, hs, hx, hr]
    exact hK _ _ (h A c w (by simpa using hown) (Below.refl _ _))
  · obtain ⟨b, off, rfl, hbl, hc⟩ := hy.2 (by omega)
    exact wpList_appM hgd s x ho w base B A n c zs hs hown b off m cx ys hx hy (by omega) hn hb h
end Go.Proofs.Ytlnoolnbpohjhaa
