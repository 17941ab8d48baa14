/- Plain laws: what is written of a wheel is read back; a turned wheel is valid, of the same cycle, and strikes the same; being of the same cycle goes both ways. No conditions. -/
import Derived.Test.YtajcbppndkkbpaaGreatDoorReadPlain
import Derived.Test.YtajcbppndkkbpaaGreatDoorReadWheel
import Derived.Test.YtajcbppndkkbpaaGreatDoorCycle
import Derived.Test.YtajcbppndkkbpaaGreatDoorStrikeMany
import Derived.Test.YtajcbppndkkbpaaGreatDoorDrawText
namespace Go.Proofs.YtajcbppndkkbpaaGreatDoor
open Go.RowKit
set_option linter.unusedVariables false
set_option linter.unusedSimpArgs false
theorem wtx_yes {zs : List Int} (h : vWheel zs = true) : wtx zs = txK [45] zs zs.length := by unfold wtx; rw [if_pos h]
theorem wtx_no {zs : List Int} (h : vWheel zs = false) : wtx zs = [] := by unfold wtx; rw [if_neg (by rw [h]; decide)]
theorem vWheel_mem {zs : List Int} (h : vWheel zs = true) : ∀ x ∈ zs, 0 ≤ x ∧ x < 1000 := fun x hx => by
  obtain ⟨j, hj, e⟩ := List.mem_iff_getElem.1 hx
  have := (vWheel_yes h).1 j hj
  rw [getD_of hj, e] at this
  omega
theorem read_back {zs : List Int} (h : vWheel zs = true) : rdZ 45 (wtx zs) = zs := by
  rw [wtx_yes h, rdZ, split_tx (by rfl) zs (vWheel_yes h).2.1]
  exact map_num (fun p v hp => numZ_ok hp) zs (vWheel_mem h)
theorem read_none : vWheel (rdZ 45 []) = false := rdZ_bad (p := []) (by simp [splitL]) (by rfl)
theorem read_ok (zs : List Int) : vWheel (rdZ 45 (wtx zs)) = vWheel zs := by
  cases h : vWheel zs
  · rw [wtx_no h]; exact read_none
  · rw [read_back h, h]
theorem wtx_len {zs : List Int} (h : vWheel zs = true) : 1 ≤ (wtx zs).length := by
  cases h2 : wtx zs with
  | nil =>
    have h3 := read_back h
    rw [h2] at h3
    have h4 := read_none
    rw [h3, h] at h4
    cases h4
  | cons a r => simp
theorem wtx_empty (zs : List Int) : (⟨(wtx zs).toArray⟩ : ByteArray).toList.isEmpty = !vWheel zs := by
  cases h : vWheel zs
  · rw [wtx_no h]; exact empty_of rfl
  · exact not_empty (by have := wtx_len h; simpa [ByteArray.size] using this)
theorem valid_turn {zs : List Int} {k : Nat} (h : vWheel zs = true) : vWheel (zs.drop k ++ zs.take k) = true := by
  have hl : (zs.drop k ++ zs.take k).length = zs.length := by simp; omega
  have hp : (zs.drop k ++ zs.take k).all (fun z => inB z 1 12) = zs.all (fun z => inB z 1 12) := by
    conv => rhs; rw [← List.take_append_drop k zs]
    rw [List.all_append, List.all_append, Bool.and_comm]
  unfold vWheel at h ⊢
  rw [hl, hp]
  exact h
theorem cyc_turn {zs : List Int} {n k : Nat} (hk : k < n) (h : vWheel zs = true) : cycB zs (zs.drop k ++ zs.take k) n = true := by
  unfold cycB
  rw [h, valid_turn h, anyTurn_yes hk (decide_eq_true rfl)]
  rfl
theorem turn_back {zs ys : List Int} {n n' : Nat} (hl : zs.length = n) (hl' : ys.length = n') (h : anyTurn zs ys n = true) : anyTurn ys zs n' = true := by
  unfold anyTurn at h
  rw [List.any_eq_true] at h
  obtain ⟨k, hk, e⟩ := h
  have hk : k < n := by simpa using hk
  have e := of_decide_eq_true e
  have hn : n' = n := by rw [← hl', ← e]; simp; omega
  by_cases h0 : k = 0
  · subst h0
    refine anyTurn_yes (k := 0) (by omega) (decide_eq_true ?_)
    rw [← e]; simp
  · refine anyTurn_yes (k := n - k) (by omega) (decide_eq_true ?_)
    have hd : (zs.drop k).length = n - k := by simp; omega
    rw [← e, List.drop_left' hd, List.take_left' hd, List.take_append_drop]
theorem anyTurn_comm {zs ys : List Int} {n n' : Nat} (hl : zs.length = n) (hl' : ys.length = n') : anyTurn ys zs n' = anyTurn zs ys n := by
  cases h : anyTurn zs ys n
  · cases h2 : anyTurn ys zs n'
    · rfl
    · rw [turn_back hl' hl h2] at h; cases h
  · exact turn_back hl hl' h
theorem cyc_comm {zs ys : List Int} {n n' : Nat} (hl : zs.length = n) (hl' : ys.length = n') : cycB ys zs n' = cycB zs ys n := by
  unfold cycB
  rw [anyTurn_comm hl hl']
  cases vWheel zs <;> cases vWheel ys <;> rfl
theorem many_same {zs : List Int} {n k N : Nat} (hl : zs.length = n) (hk : k < n) : manyL (zs.drop k ++ zs.take k) n 0 N = manyL zs n k N := by
  rw [← many_turn hl hk]
  unfold manyL
  apply List.map_congr_left
  intro j _
  have hj : (0 + j) % n < n := Nat.mod_lt _ (by omega)
  show (manyL zs n k n).getD ((0 + j) % n) 0 = _
  rw [manyL_getD hj, Nat.zero_add, Nat.add_mod_mod]
/-- thirty strikes of a wheel from a notch, and of the wheel turned to it -/
theorem sm_turn {zs : List Int} {n k : Nat} (hl : zs.length = n) (hk : k < n) (h : vWheel zs = true) : smC zs n k 30 = 0 ∧ smC (zs.drop k ++ zs.take k) n 0 30 = 0 ∧ smL (zs.drop k ++ zs.take k) n 0 30 = smL zs n k 30 := by
  have h1 := sm_ok (n := n) (x := k) (m := 30) h (by rw [inB_mk (by omega) (by omega)]; rfl)
  have h2 := sm_ok (n := n) (x := 0) (m := 30) (valid_turn (k := k) h) (by rw [inB_mk (by omega) (by omega)]; rfl)
  refine ⟨h1.2.2, h2.2.2, ?_⟩
  exact h2.1.trans ((many_same hl hk).trans h1.1.symm)
end Go.Proofs.YtajcbppndkkbpaaGreatDoor
