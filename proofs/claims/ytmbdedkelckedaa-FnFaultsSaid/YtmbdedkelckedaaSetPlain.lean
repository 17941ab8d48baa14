/- Plain: a work that is set to a day is valid. No program. Conditions: the calendar, its cam and the day are valid. -/
import Derived.Test.YtmbdedkelckedaaSet
namespace Go.Proofs.Ytmbdedkelckedaa
open Go.RowKit
set_option linter.unusedVariables false
set_option linter.unusedSimpArgs false
theorem teK_ge (ms : List Mth) (t : Int) : ∀ k, t ≤ teK ms t k
  | 0 => Int.le_refl _
  | k + 1 => by
    have := teK_ge ms t k
    simp only [teK]; omega
theorem teK_mth (ms : List Mth) (t : Int) : ∀ k j, j < k → (ms.getD j m0).dy ≤ teK ms t k ∧ (ms.getD j m0).lp ≤ teK ms t k
  | 0, j, h => absurd h (by omega)
  | k + 1, j, h => by
    simp only [teK]
    by_cases e : j = k
    · subst e; omega
    · have := teK_mth ms t k j (by omega)
      omega
theorem set_perp {nm : ByteArray} {n n' : Nat} {ms : List Mth} {rs : List Rul} {cw : Int} {zs : List Int} {l : Nat} {y m d wk : Int} (hv : vCal nm n n' ms rs cw = true) (hc : vCam zs = true) (hl : zs.length = l) (hm : l % n = 0) (hd : dOk ms rs n n' y m d = true) (hw : inB wk 1 cw = true) :
    vPerp zs l n (teK ms (maxK zs (l - 1)) n) (setIx l n y m) d cw wk = true := by
  obtain ⟨-, -, -, hmo, ⟨n1, n2⟩, w1, w2⟩ := vCal_yes hv
  obtain ⟨z1, z2, z3⟩ := vCam_yes hc
  obtain ⟨⟨a0, a1⟩, ⟨b0, b1⟩, c0, c1⟩ := dOk_yes hd
  have hx := setIx_bd (l := l) (n := n) (y := y) (m := m) hm (by omega) (by omega) n1 a0 b0 b1
  have hM : ∀ j, j < zs.length → zs.getD j 0 ≤ maxK zs (l - 1) := fun j hj => (maxK_le zs (maxK zs (l - 1)) (l - 1)).1 (Int.le_refl _) j (by omega)
  have hM1 : 1 ≤ maxK zs (l - 1) := Int.le_trans (z1 0 (by omega)).1 (hM 0 (by omega))
  have hM2 : maxK zs (l - 1) ≤ 60 := (maxK_le zs 60 (l - 1)).2 (fun j hj => (z1 j (by omega)).2)
  have ht := teK_bd (n := n) hM1 hM2 hmo n (Nat.le_refl _)
  have hg := teK_ge ms (maxK zs (l - 1)) n
  have hdd : d ≤ teK ms (maxK zs (l - 1)) n := by
    obtain ⟨k, rfl, hk⟩ := to_k b0 b1
    have h2 := teK_mth ms (maxK zs (l - 1)) n k hk
    unfold dayK at c1
    rw [dayB_k] at c1
    split at c1 <;> omega
  have ht2 : (l : Int).tmod (n : Int) = 0 := by rw [nat_tmod, hm]; rfl
  generalize teK ms (maxK zs (l - 1)) n = T at *
  unfold vPerp
  rw [hc, decide_eq_true (show (1 : Int) ≤ (n : Int) by omega), decide_eq_true ht2, inB_mk ht.1 ht.2, allLe_yes (fun j hj => Int.le_trans (hM j hj) hg), inB_mk c0 hdd, inB_mk w1 w2, hw]
  unfold setIx
  rw [inB_mk (by omega) (by omega)]; rfl
end Go.Proofs.Ytmbdedkelckedaa
