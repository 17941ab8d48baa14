/- Plain laws of the levels of a cam: numbers put one by one into a rising list are the sorted numbers without repeats. No conditions. -/
import Derived.Test.YtmbdedkelckedaaCore1
import Derived.Lib.SlicesCompact
namespace Go.Proofs.Ytmbdedkelckedaa
set_option linter.unusedVariables false
/-- a number put into a list that rises -/
def putL : List Int → Int → List Int
  | [], v => [v]
  | x :: r, v => if v ≤ x then (if v < x then v :: x :: r else x :: r) else x :: putL r v
theorem putL_len (v : Int) : ∀ l, (putL l v).length ≤ l.length + 1
  | [] => by simp [putL]
  | x :: r => by
    have := putL_len v r
    unfold putL
    split
    · split <;> simp
    · simp; omega
theorem mem_putL (v y : Int) : ∀ l, y ∈ putL l v ↔ y = v ∨ y ∈ l
  | [] => by simp [putL]
  | x :: r => by
    unfold putL
    split
    · split
      · simp
      · have : v = x := by omega
        subst this; simp
    · simp only [List.mem_cons, mem_putL v y r]
      constructor
      · rintro (h | h | h) <;> simp [h]
      · rintro (h | h | h) <;> simp [h]
theorem putL_rises (v : Int) : ∀ l, l.Pairwise (· < ·) → (putL l v).Pairwise (· < ·)
  | [], _ => by simp [putL]
  | x :: r, h => by
    have h1 := List.pairwise_cons.1 h
    unfold putL
    split
    · split
      · rename_i h2
        refine List.pairwise_cons.2 ⟨fun y hy => ?_, h⟩
        rcases List.mem_cons.1 hy with e | e
        · omega
        · have := h1.1 y e; omega
      · exact h
    · refine List.pairwise_cons.2 ⟨fun y hy => ?_, putL_rises v r h1.2⟩
      rcases (mem_putL v y r).1 hy with e | e
      · omega
      · exact h1.1 y e
theorem foldl_put_mem (y : Int) : ∀ (zs acc : List Int), y ∈ zs.foldl putL acc ↔ y ∈ acc ∨ y ∈ zs
  | [], acc => by simp
  | z :: r, acc => by
    rw [List.foldl_cons, foldl_put_mem y r, mem_putL]
    simp only [List.mem_cons]
    constructor
    · rintro ((h | h) | h) <;> simp [h]
    · rintro (h | h | h) <;> simp [h]
theorem foldl_put_rises : ∀ (zs acc : List Int), acc.Pairwise (· < ·) → (zs.foldl putL acc).Pairwise (· < ·)
  | [], acc, h => h
  | z :: r, acc, h => foldl_put_rises r _ (putL_rises z acc h)
theorem foldl_put_len : ∀ (zs acc : List Int), (zs.foldl putL acc).length ≤ acc.length + zs.length
  | [], acc => by simp
  | z :: r, acc => by
    have h1 := foldl_put_len r (putL acc z)
    have h2 := putL_len z acc
    simp only [List.foldl_cons, List.length_cons]; omega
theorem rise_eq : ∀ (l1 l2 : List Int), l1.Pairwise (· < ·) → l2.Pairwise (· < ·) → (∀ x, x ∈ l1 ↔ x ∈ l2) → l1 = l2
  | [], [], _, _, _ => rfl
  | [], b :: s, _, _, h => absurd ((h b).2 (by simp)) (by simp)
  | a :: r, [], _, _, h => absurd ((h a).1 (by simp)) (by simp)
  | a :: r, b :: s, h1, h2, h => by
    have p1 := List.pairwise_cons.1 h1
    have p2 := List.pairwise_cons.1 h2
    have e : a = b := by
      rcases List.mem_cons.1 ((h a).1 (by simp)) with e1 | e1
      · exact e1
      · rcases List.mem_cons.1 ((h b).2 (by simp)) with e2 | e2
        · exact e2.symm
        · have := p1.1 b e2
          have := p2.1 a e1
          omega
    subst e
    rw [rise_eq r s p1.2 p2.2 (fun x => ?_)]
    constructor
    · intro hx
      have := p1.1 x hx
      rcases List.mem_cons.1 ((h x).1 (List.mem_cons_of_mem _ hx)) with e | e
      · omega
      · exact e
    · intro hx
      have := p2.1 x hx
      rcases List.mem_cons.1 ((h x).2 (List.mem_cons_of_mem _ hx)) with e | e
      · omega
      · exact e
/-- what is left of a list that does not fall -/
theorem compact_up (d : Array Int) (hs : ∀ i j, i < j → j < d.size → d[i]! ≤ d[j]!) : ∀ m, m ≤ d.size → (Lib.compactUpTo d m).Pairwise (· < ·) ∧ (∀ x, x ∈ Lib.compactUpTo d m ↔ ∃ j, j < m ∧ x = d[j]!) ∧ (∀ x, x ∈ Lib.compactUpTo d m → ∀ j, m ≤ j + 1 → j < d.size → x ≤ d[j]!)
  | 0, _ => by
    have e : Lib.compactUpTo d 0 = [] := by simp [Lib.compactUpTo]
    rw [e]
    exact ⟨List.Pairwise.nil, fun x => by simp, fun x hx => by simp at hx⟩
  | m + 1, hm => by
    obtain ⟨a1, a2, a3⟩ := compact_up d hs m (by omega)
    rw [Lib.compactUpTo_succ]
    cases hk : Lib.keeps d m
    · have hk2 : ¬ (m = 0 ∨ d[m]! ≠ d[m - 1]!) := by simpa [Lib.keeps] using hk
      have m0 : 0 < m := by omega
      have he : d[m]! = d[m - 1]! := Classical.byContradiction fun h => hk2 (.inr h)
      simp only [Bool.false_eq_true, if_false, List.append_nil]
      refine ⟨a1, fun x => ?_, fun x hx j h1 h2 => a3 x hx j (by omega) h2⟩
      rw [a2 x]
      constructor
      · rintro ⟨j, hj, e⟩; exact ⟨j, by omega, e⟩
      · rintro ⟨j, hj, e⟩
        by_cases hjm : j = m
        · subst hjm; exact ⟨j - 1, by omega, by rw [e, he]⟩
        · exact ⟨j, by omega, e⟩
    · simp only [if_true]
      have hlt : ∀ x, x ∈ Lib.compactUpTo d m → x < d[m]! := fun x hx => by
        have h1 := a3 x hx m (by omega) (by omega)
        by_cases m0 : m = 0
        · subst m0; obtain ⟨j, hj, _⟩ := (a2 x).1 hx; omega
        · have h2 := a3 x hx (m - 1) (by omega) (by omega)
          have h3 := hs (m - 1) m (by omega) (by omega)
          have hk2 : m = 0 ∨ d[m]! ≠ d[m - 1]! := by simpa [Lib.keeps] using hk
          rcases hk2 with h4 | h4 <;> omega
      refine ⟨List.pairwise_append.2 ⟨a1, by simp, fun x hx y hy => by simp at hy; subst hy; exact hlt x hx⟩, fun x => ?_, fun x hx j h1 h2 => ?_⟩
      · rw [List.mem_append, a2 x]
        constructor
        · rintro (⟨j, hj, e⟩ | h)
          · exact ⟨j, by omega, e⟩
          · exact ⟨m, by omega, by simpa using h⟩
        · rintro ⟨j, hj, e⟩
          by_cases hjm : j = m
          · subst hjm; right; simpa using e
          · exact .inl ⟨j, by omega, e⟩
      · have hmj : d[m]! ≤ d[j]! := by
          by_cases e : m = j
          · subst e; omega
          · exact hs m j (by omega) h2
        rcases List.mem_append.1 hx with h | h
        · have := hlt x h; omega
        · have : x = d[m]! := by simpa using h
          omega
theorem levels_eq (zs : List Int) : Lib.compact (zs.mergeSort fun x y => decide (x ≤ y)) = zs.foldl putL [] := by
  have hp := List.mergeSort_perm zs (fun x y => decide (x ≤ y))
  have hs := List.pairwise_mergeSort (le := fun x y : Int => decide (x ≤ y)) (fun a b c h1 h2 => by simp at *; omega) (fun a b => by simp; omega) zs
  generalize (zs.mergeSort fun x y => decide (x ≤ y)) = l at *
  have hu := compact_up l.toArray (fun i j hi hj => by
    have hj2 : j < l.length := by simpa using hj
    have := List.pairwise_iff_getElem.1 hs i j (by omega) hj2 hi
    simpa [getElem!_pos, hj2, show i < l.length by omega] using this) l.toArray.size (Nat.le_refl _)
  refine rise_eq _ _ (by simpa [Lib.compact] using hu.1) (foldl_put_rises zs [] List.Pairwise.nil) (fun x => ?_)
  rw [foldl_put_mem, ← hp.mem_iff]
  have e := hu.2.1 x
  simp only [List.size_toArray] at e
  unfold Lib.compact
  rw [e]
  simp only [List.not_mem_nil, false_or]
  constructor
  · rintro ⟨j, hj, rfl⟩
    rw [show l.toArray[j]! = l[j] by simp [getElem!_pos, hj]]
    exact List.getElem_mem hj
  · intro hx
    obtain ⟨j, hj, e⟩ := List.mem_iff_getElem.1 hx
    exact ⟨j, hj, by simp [getElem!_pos, hj, e]⟩
end Go.Proofs.Ytmbdedkelckedaa
