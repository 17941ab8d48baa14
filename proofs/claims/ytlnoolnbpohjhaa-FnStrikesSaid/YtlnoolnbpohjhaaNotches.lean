/- Contracts of the positions of notches, the program's and the reference's. No conditions but that a wheel has at most 2^20 gaps. -/
import Derived.Test.YtlnoolnbpohjhaaStrike
import Derived.Test.YtlnoolnbpohjhaaApp
namespace Go.Proofs.Ytlnoolnbpohjhaa
open Go.RowKit
set_option linter.unusedVariables false
set_option linter.unusedSimpArgs false
/-- the positions of the first k notches -/
def notchK (zs : List Int) : Nat → List Int
  | 0 => []
  | k + 1 => notchK zs k ++ [sumK zs k]
theorem notchK_len (zs : List Int) : ∀ k, (notchK zs k).length = k
  | 0 => rfl
  | k + 1 => by simp [notchK, notchK_len zs k]
set_option maxHeartbeats 2000000 in
theorem notchesOf_any (A : Option Addr) (n c B : Nat) (zs : List Int) (w : World) (h : Ints w B A n zs) (hB : B ≤ w.heap.size) (hv : vWheel zs = true) :
    Calls Try.prog 42 #[.agg #[.slice A n c]] w (NewInts w (notchK zs n)) := by
  have hl := h.len
  have HL := Lib.hid hl
  have H := Lib.hid (h.more hB)
  obtain ⟨hb, h1, h2⟩ := vWheel_yes hv
  have HS := Lib.hid (sumK_bd hb)
  rw [hl] at h1 h2
  clear h hv hl hb hB
  go_enter Try.func42, Try.ntmps42
  go_wp2
  go_loopw [3, 4, 6, 10] (fun l s g t wr => ∃ (k c' : Nat) (L : Option Addr), t = .int .i64 k ∧ k ≤ n ∧ s = .int .i64 (sumK zs k) ∧ l = .slice L k c' ∧ Hid (Own wr (w.heap.size + 1) L k c' (notchK zs k)) ∧ Below (w.heap.size + 1) (w.alloc (.cells #[.slice A n c] 26)) wr) (fun _ _ _ t _ => n - (intOf t).toNat)
  case atStart => exact ⟨0, 0, _, rfl, Nat.zero_le _, rfl, rfl, Lib.hid Own.nil_, Below.refl _ _⟩
  case round =>
    obtain ⟨k, c', L, rfl, hk, rfl, rfl, ho, hB⟩ := hrel
    have hsz : w.heap.size + 1 ≤ wr.heap.size := by have := hB.size; simpa using this
    have hs0 := HS.out k (by rw [HL.out]; exact hk)
    by_cases hlt : k < n
    · have HB := Lib.hid hB
      clear hB
      obtain ⟨b, off, rfl, hbl, hc⟩ := H.out.at_ hlt
      have hs1 := HS.out (k + 1) (by rw [HL.out]; omega)
      have e : sumK zs (k + 1) = sumK zs k + zs.getD k 0 := rfl
      obtain ⟨x, hx⟩ : ∃ x, zs.getD k 0 = x := ⟨_, rfl⟩
      rw [hx] at hc e
      rw [e] at hs1
      have HE := Lib.hid e
      have hcr : wr.cell? ⟨b, off + k, none⟩ = some (.int .i64 x) := by
        rw [HB.out.cell (p := ⟨b, off + k, none⟩) (by simp; omega)]
        exact (World.cell?_alloc_lt w _ _ (by simpa using hbl)).trans hc
      clear e hx hc
      go_wp2_with (at_builtin; refine wpList_app rfl _ _ rfl _ (w.heap.size + 1) _ _ _ (notchK zs k) rfl (ho.out.alloc _) wr.heap.size rfl (sumK zs k) (by simp [go_sem]) (by omega) (by simp; omega) ?_; intro L2 c2 w2 ho2 hb2; have HO2 := Lib.hid ho2; clear ho2)
      go_roundw
      case rel => exact ⟨k + 1, c2, L2, by go_num, by omega, by rw [HE.out], rfl, HO2, (HB.out.alloc hsz _).trans hb2⟩
      case measure => simp [intOf]; omega
    · have HE := Lib.hid (show k = n by omega)
      have HB := Lib.hid hB
      clear hB
      go_wp2
      go_ret
      refine ⟨L, k, c', rfl, ?_, ?_⟩
      · have := ho.out.low (b0 := w.heap.size) (by omega)
        rw [HE.out] at this ⊢; exact this
      · exact ((Below.refl _ _).alloc (Nat.le_refl _) _).trans (HB.out.mono (by omega))
/-- what NotchesOf gives -/
def notL (zs : List Int) (n : Nat) : List Int := if vWheel zs then notchK zs n else []
def notC (zs : List Int) : Int := if vWheel zs then 0 else 1
set_option maxHeartbeats 1000000 in
theorem NotchesOf_any (A : Option Addr) (n c B : Nat) (zs : List Int) (w : World) (h : Ints w B A n zs) (hB : B ≤ w.heap.size) (hn : n ≤ 1048576) :
    Calls Try.prog 23 #[.agg #[.slice A n c]] w (NewIntsCode w (notL zs n) (notC zs)) := by
  have H := Lib.hid (h.more hB)
  clear h
  cases hv : vWheel zs
  · rw [show notL zs n = [] by simp [notL, hv], show notC zs = 1 by simp [notC, hv]]
    go_enter Try.func23, Try.ntmps23
    go_wp2_with fail
    refine (ValidCountWheel_any _ _ _ _ zs _ (by exact Ints.below (H.out) (by (repeat (first | with_reducible exact Below.refl _ _ | with_reducible refine below_alloc ?_ _ | with_reducible refine below_drewN ?_ _ | with_reducible refine Below.drew ?_ | ((with_reducible refine below_set ?_ ?_ _); rotate_left; (focus (first | (simp; done) | (simp; omega) | omega))) | with_reducible refine below_call ?_ (by assumption))))) (by exact Below.size (B := w.heap.size) (w := w) (by (repeat (first | with_reducible exact Below.refl _ _ | with_reducible refine below_alloc ?_ _ | with_reducible refine below_drewN ?_ _ | with_reducible refine Below.drew ?_ | ((with_reducible refine below_set ?_ ?_ _); rotate_left; (focus (first | (simp; done) | (simp; omega) | omega))) | with_reducible refine below_call ?_ (by assumption))))) hn).mono ?_
    rintro e w1 ⟨rfl, hb1⟩
    obtain ⟨hc1, hf1, hs1⟩ := bcell hb1
    (try (refine cut_ (p := w.heap.size < w1.heap.size) ?_ ?_; (focus (refine hs1 _ ?_; first | assumption | omega | (simp [go_sem]; done) | (simp [go_sem]; omega))); intro hl1a))
    (try (refine cut_ (p := w.heap.size + 1 < w1.heap.size) ?_ ?_; (focus (refine hs1 _ ?_; first | assumption | omega | (simp [go_sem]; done) | (simp [go_sem]; omega))); intro hl1b))
    (try (refine cut_ (p := w.heap.size + 1 + 1 < w1.heap.size) ?_ ?_; (focus (refine hs1 _ ?_; first | assumption | omega | (simp [go_sem]; done) | (simp [go_sem]; omega))); intro hl1c))
    go_wp2
    go_ret2
    exact ⟨none, 0, 0, rfl, Own.nil_, by (repeat (first | with_reducible exact Below.refl _ _ | with_reducible refine below_alloc ?_ _ | with_reducible refine below_drewN ?_ _ | with_reducible refine Below.drew ?_ | ((with_reducible refine below_set ?_ ?_ _); rotate_left; (focus (first | (simp; done) | (simp; omega) | omega))) | with_reducible refine below_call ?_ (by assumption)))⟩
  · rw [show notL zs n = notchK zs n by simp [notL, hv], show notC zs = 0 by simp [notC, hv]]
    go_enter Try.func23, Try.ntmps23
    go_wp2_with fail
    refine (ValidCountWheel_any _ _ _ _ zs _ (by exact Ints.below (H.out) (by (repeat (first | with_reducible exact Below.refl _ _ | with_reducible refine below_alloc ?_ _ | with_reducible refine below_drewN ?_ _ | with_reducible refine Below.drew ?_ | ((with_reducible refine below_set ?_ ?_ _); rotate_left; (focus (first | (simp; done) | (simp; omega) | omega))) | with_reducible refine below_call ?_ (by assumption))))) (by exact Below.size (B := w.heap.size) (w := w) (by (repeat (first | with_reducible exact Below.refl _ _ | with_reducible refine below_alloc ?_ _ | with_reducible refine below_drewN ?_ _ | with_reducible refine Below.drew ?_ | ((with_reducible refine below_set ?_ ?_ _); rotate_left; (focus (first | (simp; done) | (simp; omega) | omega))) | with_reducible refine below_call ?_ (by assumption))))) hn).mono ?_
    rintro e w1 ⟨rfl, hb1⟩
    obtain ⟨hc1, hf1, hs1⟩ := bcell hb1
    (try (refine cut_ (p := w.heap.size < w1.heap.size) ?_ ?_; (focus (refine hs1 _ ?_; first | assumption | omega | (simp [go_sem]; done) | (simp [go_sem]; omega))); intro hl1a))
    (try (refine cut_ (p := w.heap.size + 1 < w1.heap.size) ?_ ?_; (focus (refine hs1 _ ?_; first | assumption | omega | (simp [go_sem]; done) | (simp [go_sem]; omega))); intro hl1b))
    (try (refine cut_ (p := w.heap.size + 1 + 1 < w1.heap.size) ?_ ?_; (focus (refine hs1 _ ?_; first | assumption | omega | (simp [go_sem]; done) | (simp [go_sem]; omega))); intro hl1c))
    go_wp2_with fail
    refine (notchesOf_any _ _ _ _ zs _ (by exact Ints.below (H.out) (by (repeat (first | with_reducible exact Below.refl _ _ | with_reducible refine below_alloc ?_ _ | with_reducible refine below_drewN ?_ _ | with_reducible refine Below.drew ?_ | ((with_reducible refine below_set ?_ ?_ _); rotate_left; (focus (first | (simp; done) | (simp; omega) | omega))) | with_reducible refine below_call ?_ (by assumption))))) (by exact Below.size (B := w.heap.size) (w := w) (by (repeat (first | with_reducible exact Below.refl _ _ | with_reducible refine below_alloc ?_ _ | with_reducible refine below_drewN ?_ _ | with_reducible refine Below.drew ?_ | ((with_reducible refine below_set ?_ ?_ _); rotate_left; (focus (first | (simp; done) | (simp; omega) | omega))) | with_reducible refine below_call ?_ (by assumption))))) hv).mono ?_
    rintro e w2 ⟨L, m, c2, rfl, ho2, hb2⟩
    have O2 := Lib.hid ho2
    clear ho2
    go_wp2
    go_ret2
    exact ⟨L, m, c2, rfl, O2.out.low (by exact Below.size (B := w.heap.size) (w := w) (by (repeat (first | with_reducible exact Below.refl _ _ | with_reducible refine below_alloc ?_ _ | with_reducible refine below_drewN ?_ _ | with_reducible refine Below.drew ?_ | ((with_reducible refine below_set ?_ ?_ _); rotate_left; (focus (first | (simp; done) | (simp; omega) | omega))) | with_reducible refine below_call ?_ (by assumption))))), by (repeat (first | with_reducible exact Below.refl _ _ | with_reducible refine below_alloc ?_ _ | with_reducible refine below_drewN ?_ _ | with_reducible refine Below.drew ?_ | ((with_reducible refine below_set ?_ ?_ _); rotate_left; (focus (first | (simp; done) | (simp; omega) | omega))) | with_reducible refine below_call ?_ (by assumption)))⟩
end Go.Proofs.Ytlnoolnbpohjhaa
