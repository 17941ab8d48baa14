/- Contracts of the texts of count wheels, the program's (a join of words) and the reference's. No conditions but that a wheel has at most 2^20 gaps. -/
import Derived.Test.YtnamfiggpobfbaaDoorDec
import Derived.Test.YtnamfiggpobfbaaDoorWheel
import Derived.Lib.Join
namespace Go.Proofs.YtnamfiggpobfbaaDoor
open Go.RowKit
set_option linter.unusedVariables false
set_option linter.unusedSimpArgs false
def dd (z : Int) : List UInt8 := Lib.decDigits z.toNat
/-- the text of the first k numbers, a sign between each two -/
def txK (sep : List UInt8) (zs : List Int) : Nat → List UInt8
  | 0 => []
  | k + 1 => if k = 0 then dd (zs.getD 0 0) else txK sep zs k ++ sep ++ dd (zs.getD k 0)
theorem txK_one (sep : List UInt8) (zs : List Int) : txK sep zs 1 = dd (zs.getD 0 0) := by simp [txK]
theorem txK_more (sep : List UInt8) (zs : List Int) {k : Nat} (hk : 0 < k) : txK sep zs (k + 1) = txK sep zs k ++ sep ++ dd (zs.getD k 0) := by
  rw [txK, if_neg (by omega)]
theorem join_snoc (sep : List UInt8) (x : List UInt8) (r : List (List UInt8)) (y : List UInt8) : Lib.join ((x :: r) ++ [y]) sep = Lib.join (x :: r) sep ++ sep ++ y := by
  rw [List.cons_append, Lib.join_cons, Lib.join_cons]
  simp [Lib.joinTail]
theorem txK_join (sep : List UInt8) (zs : List Int) : ∀ k, 0 < k → k ≤ zs.length → txK sep zs k = Lib.join ((zs.take k).map dd) sep
  | 1, _, h => by
    obtain ⟨z, r, rfl⟩ : ∃ z r, zs = z :: r := by cases zs with
      | nil => simp at h
      | cons z r => exact ⟨z, r, rfl⟩
    simp [txK, Lib.join_one]
  | k + 2, _, h => by
    have ih := txK_join sep zs (k + 1) (by omega) (by omega)
    have hk : k + 1 < zs.length := by omega
    rw [txK_more sep zs (by omega), ih, List.take_succ_eq_append_getElem hk, List.map_append, getD_of hk]
    obtain ⟨z, r, e⟩ : ∃ z r, zs.take (k + 1) = z :: r := by
      cases hz : zs.take (k + 1) with
      | nil =>
        have h9 := List.length_take (i := k + 1) (l := zs)
        rw [hz] at h9
        simp only [List.length_nil] at h9
        omega
      | cons z r => exact ⟨z, r, rfl⟩
    rw [e]
    exact (join_snoc sep (dd z) (r.map dd) (dd zs[k + 1])).symm
theorem dd_len (z : Int) (h1 : 0 ≤ z) (h2 : z < 1000) : (dd z).length ≤ 3 := by
  unfold dd
  obtain ⟨n, rfl⟩ := Int.eq_ofNat_of_zero_le h1
  rw [Int.toNat_natCast]
  have hn : n < 1000 := by omega
  clear h1 h2
  rw [Lib.decDigits]
  split
  · simp
  · rw [Lib.decDigits]
    split
    · simp
    · rw [Lib.decDigits, dif_pos (by omega)]; simp
theorem txK_len (sep : List UInt8) (zs : List Int) (hs : sep.length ≤ 1) (hz : ∀ j, j < zs.length → 0 ≤ zs.getD j 0 ∧ zs.getD j 0 < 1000) : ∀ k, k ≤ zs.length → (txK sep zs k).length ≤ 4 * k
  | 0, _ => by simp [txK]
  | k + 1, h => by
    have h1 := dd_len (zs.getD k 0) (hz k (by omega)).1 (hz k (by omega)).2
    by_cases hk : k = 0
    · subst hk; rw [txK_one]; omega
    · have := txK_len sep zs hs hz k (by omega)
      rw [txK_more sep zs (by omega)]
      simp only [List.length_append]; omega
theorem info_str : (Tryd.prog.info? 9).map (fun i => (i.zero, i.size, i.bytes)) = some (some (.string ⟨#[]⟩), 1, 16) := by kernel_rfl
/-- append of one string to a row of strings of the call's own -/
theorem wpList_appT {ops : Array Oper} {rest : List Oper} {o : Oper} {a : Act} {Q : Exit → Act → World → Prop} (hgd : o.guard = none) (s x : Operand)
    (ho : o.op = .call { callee := .builtin .append, args := #[s, x], argTypes := #[28, 28] })
    (w : World) (base : Nat) (A : Option Addr) (n c : Nat) (xs : List Value) (hs : a.eval s = .slice A n c) (hown : w.ownsRow base 9 1 (.slice A n c) n xs) (g : Nat) (hx : a.eval x = .slice (some ⟨g, 0, none⟩) 1 1) (v : ByteArray)
    (hcell : w.cell? ⟨g, 0, none⟩ = some (.string v)) (hn : n ≤ 100000000) (hb : base ≤ w.heap.size)
    (h : ∀ g' c' w', w'.ownsRow base 9 1 (.slice (some ⟨g', 0, none⟩) (n + 1) c') (n + 1) (xs ++ [.string v]) → Below base w w' → wpList Tryd.prog ops Q rest (a.put o.dst (.slice (some ⟨g', 0, none⟩) (n + 1) c')) w') : wpList Tryd.prog ops Q (o :: rest) a w := by
  obtain ⟨i0, hi, hz0, hz1, hz2⟩ := info_parts info_str
  refine wpList_append_own_at (P := Tryd.prog) w hgd s x 28 ho base 9 i0 (.string ⟨#[]⟩) 1 16 Tryd.underlying28 hi hz0 hz1 hz2 rfl (by omega) (.slice A n c) n xs hs hown ⟨g, 0, none⟩ 1 1 [.string v] hx rfl
    (fun j u hj => ?_) (by simp [Value.oneCell']) (by simp only [maxLen]; omega) (by omega) hb (fun v' w' h1 h2 _ _ => ?_)
  · match j, hj with
    | 0, hj =>
      simp at hj
      subst hj
      simpa [Addr.add] using hcell
  · rcases h1.2 with ⟨_, h0⟩ | ⟨g', cap, cur, e, _⟩
    · omega
    · subst e
      refine h g' _ w' h1 ((Below.refl base w).grown h2 hb (fun k hk => ?_))
      rcases hown.2 with ⟨e, _⟩ | ⟨g2, cap2, cur2, e, hg', _⟩
      · rw [e] at hk; simp [Value.ownBlock] at hk
      · rw [e] at hk; simp [Value.ownBlock] at hk; omega
/-- the text of a wheel, empty where it is not valid -/
def wtx (zs : List Int) : List UInt8 := if vWheel zs then txK [45] zs zs.length else []
theorem str_eq {a b : ByteArray} (h : a = b) : Ending.returned (.string a) = Ending.returned (.string b) := by rw [h]
end Go.Proofs.YtnamfiggpobfbaaDoor
