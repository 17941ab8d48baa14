/- Contracts of the two functions StrikeMany. No conditions but that a wheel has at most 2^20 gaps. -/
import Derived.Test.YtajcbppndkkbpaaGreatDoorMany
namespace Go.Proofs.YtajcbppndkkbpaaGreatDoor
open Go.RowKit
set_option linter.unusedVariables false
set_option linter.unusedSimpArgs false
/-- a new list, a number and a code -/
def NewInts3 (w : World) (zs : List Int) (a cd : Int) : Ending → World → Prop := fun e w' =>
  ∃ (L : Option Addr) (m c : Nat), e = .returned (.tuple #[.slice L m c, .int .i64 a, .int .i64 cd]) ∧ Own w' w.heap.size L m c zs ∧ Below w.heap.size w w'
def smL (zs : List Int) (n : Nat) (x m : Int) : List Int := if vWheel zs then if inB x 0 ((n : Int) - 1) && inB m 0 500 then manyL zs n x.toNat m.toNat else [] else []
def smN (zs : List Int) (n : Nat) (x m : Int) : Int := if vWheel zs then if inB x 0 ((n : Int) - 1) && inB m 0 500 then ((x.toNat + m.toNat) % n : Nat) else 0 else 0
def smC (zs : List Int) (n : Nat) (x m : Int) : Int := if vWheel zs then if inB x 0 ((n : Int) - 1) && inB m 0 500 then 0 else 2 else 1
theorem smL_len (zs : List Int) (n : Nat) (x m : Int) : (smL zs n x m).length ≤ 1048576 := by
  unfold smL
  split
  · split
    · rename_i h
      rw [manyL_len]
      have := inB_yes (Bool.and_eq_true_iff.mp h).2
      omega
    · simp
  · simp
theorem sm_bad {zs : List Int} {n : Nat} {x m : Int} (h : vWheel zs = false) : smL zs n x m = [] ∧ smN zs n x m = 0 ∧ smC zs n x m = 1 := by simp [smL, smN, smC, h]
theorem sm_far {zs : List Int} {n : Nat} {x m : Int} (h : vWheel zs = true) (h' : (inB x 0 ((n : Int) - 1) && inB m 0 500) = false) : smL zs n x m = [] ∧ smN zs n x m = 0 ∧ smC zs n x m = 2 := by simp only [smL, smN, smC, h, h']; exact ⟨rfl, rfl, rfl⟩
theorem sm_ok {zs : List Int} {n : Nat} {x m : Nat} (h : vWheel zs = true) (h' : (inB (x : Int) 0 ((n : Int) - 1) && inB (m : Int) 0 500) = true) : smL zs n x m = manyL zs n x m ∧ smN zs n x m = ((x + m) % n : Nat) ∧ smC zs n x m = 0 := by simp only [smL, smN, smC, h, h']; exact ⟨rfl, rfl, rfl⟩
set_option maxHeartbeats 4000000 in
theorem StrikeMany_any (A : Option Addr) (n c B : Nat) (zs : List Int) (x m : Int) (w : World) (h : Ints w B A n zs) (hB : B ≤ w.heap.size) (hn : n ≤ 1048576) :
    Calls Tryz.prog 17 #[.agg #[.slice A n c], .int .i64 x, .int .i64 m] w (NewInts3 w (smL zs n x m) (smN zs n x m) (smC zs n x m)) := by
  have hl := h.len
  have H := Lib.hid (h.more hB)
  clear h
  cases hv : vWheel zs
  · rw [(sm_bad hv).1, (sm_bad hv).2.1, (sm_bad hv).2.2]
    go_enter Tryz.func17, Tryz.ntmps17
    go_wp2_with fail
    refine (ValidCountWheel_any _ _ _ _ zs _ (by exact Ints.below (H.out) (by (repeat (first | with_reducible exact Below.refl _ _ | with_reducible refine below_alloc ?_ _ | with_reducible refine below_drewN ?_ _ | with_reducible refine Below.drew ?_ | ((with_reducible refine below_set ?_ ?_ _); rotate_left; (focus (first | (simp; done) | (simp; omega) | omega))) | with_reducible refine below_call ?_ (by assumption))))) (by exact Below.size (B := w.heap.size) (w := w) (by (repeat (first | with_reducible exact Below.refl _ _ | with_reducible refine below_alloc ?_ _ | with_reducible refine below_drewN ?_ _ | with_reducible refine Below.drew ?_ | ((with_reducible refine below_set ?_ ?_ _); rotate_left; (focus (first | (simp; done) | (simp; omega) | omega))) | with_reducible refine below_call ?_ (by assumption))))) hn).mono ?_
    rintro e w1 ⟨rfl, hb1⟩
    obtain ⟨hc1, hf1, hs1⟩ := bcell hb1
    (try (refine cut_ (p := w.heap.size < w1.heap.size) ?_ ?_; (focus (refine hs1 _ ?_; first | assumption | omega | (simp [go_sem]; done) | (simp [go_sem]; omega))); intro hl1a))
    (try (refine cut_ (p := w.heap.size + 1 < w1.heap.size) ?_ ?_; (focus (refine hs1 _ ?_; first | assumption | omega | (simp [go_sem]; done) | (simp [go_sem]; omega))); intro hl1b))
    (try (refine cut_ (p := w.heap.size + 1 + 1 < w1.heap.size) ?_ ?_; (focus (refine hs1 _ ?_; first | assumption | omega | (simp [go_sem]; done) | (simp [go_sem]; omega))); intro hl1c))
    go_wp2
    go_ret3
    exact ⟨none, 0, 0, rfl, Own.nil_, by (repeat (first | with_reducible exact Below.refl _ _ | with_reducible refine below_alloc ?_ _ | with_reducible refine below_drewN ?_ _ | with_reducible refine Below.drew ?_ | ((with_reducible refine below_set ?_ ?_ _); rotate_left; (focus (first | (simp; done) | (simp; omega) | omega))) | with_reducible refine below_call ?_ (by assumption)))⟩
  · cases hi : inB x 0 ((n : Int) - 1)
    · have hf := sm_far (m := m) hv (by rw [hi]; rfl)
      rw [hf.1, hf.2.1, hf.2.2]
      clear hf
      go_enter Tryz.func17, Tryz.ntmps17
      go_wp2_with fail
      refine (ValidCountWheel_any _ _ _ _ zs _ (by exact Ints.below (H.out) (by (repeat (first | with_reducible exact Below.refl _ _ | with_reducible refine below_alloc ?_ _ | with_reducible refine below_drewN ?_ _ | with_reducible refine Below.drew ?_ | ((with_reducible refine below_set ?_ ?_ _); rotate_left; (focus (first | (simp; done) | (simp; omega) | omega))) | with_reducible refine below_call ?_ (by assumption))))) (by exact Below.size (B := w.heap.size) (w := w) (by (repeat (first | with_reducible exact Below.refl _ _ | with_reducible refine below_alloc ?_ _ | with_reducible refine below_drewN ?_ _ | with_reducible refine Below.drew ?_ | ((with_reducible refine below_set ?_ ?_ _); rotate_left; (focus (first | (simp; done) | (simp; omega) | omega))) | with_reducible refine below_call ?_ (by assumption))))) hn).mono ?_
      rintro e w1 ⟨rfl, hb1⟩
      obtain ⟨hc1, hf1, hs1⟩ := bcell hb1
      (try (refine cut_ (p := w.heap.size < w1.heap.size) ?_ ?_; (focus (refine hs1 _ ?_; first | assumption | omega | (simp [go_sem]; done) | (simp [go_sem]; omega))); intro hl1a))
      (try (refine cut_ (p := w.heap.size + 1 < w1.heap.size) ?_ ?_; (focus (refine hs1 _ ?_; first | assumption | omega | (simp [go_sem]; done) | (simp [go_sem]; omega))); intro hl1b))
      (try (refine cut_ (p := w.heap.size + 1 + 1 < w1.heap.size) ?_ ?_; (focus (refine hs1 _ ?_; first | assumption | omega | (simp [go_sem]; done) | (simp [go_sem]; omega))); intro hl1c))
      go_wp2_with fail
      refine (isNotch_any _ _ _ _ _ hn).mono ?_
      rintro e w2 ⟨rfl, hb2⟩
      obtain ⟨hc2, hf2, hs2⟩ := bcell hb2
      (try (refine cut_ (p := w.heap.size < w2.heap.size) ?_ ?_; (focus (refine hs2 _ ?_; first | assumption | omega | (simp [go_sem]; done) | (simp [go_sem]; omega))); intro hl2a))
      (try (refine cut_ (p := w.heap.size + 1 < w2.heap.size) ?_ ?_; (focus (refine hs2 _ ?_; first | assumption | omega | (simp [go_sem]; done) | (simp [go_sem]; omega))); intro hl2b))
      (try (refine cut_ (p := w.heap.size + 1 + 1 < w2.heap.size) ?_ ?_; (focus (refine hs2 _ ?_; first | assumption | omega | (simp [go_sem]; done) | (simp [go_sem]; omega))); intro hl2c))
      go_wp2_with (go_at_call 39; refine (within_any _ _ _ _).mono ?_; rintro e w' ⟨rfl, rfl⟩)
      go_ret3
      exact ⟨none, 0, 0, rfl, Own.nil_, by (repeat (first | with_reducible exact Below.refl _ _ | with_reducible refine below_alloc ?_ _ | with_reducible refine below_drewN ?_ _ | with_reducible refine Below.drew ?_ | ((with_reducible refine below_set ?_ ?_ _); rotate_left; (focus (first | (simp; done) | (simp; omega) | omega))) | with_reducible refine below_call ?_ (by assumption)))⟩
    · cases hb : inB m 0 500
      · have hf := sm_far (m := m) hv (by rw [hi, hb]; rfl)
        rw [hf.1, hf.2.1, hf.2.2]
        clear hf
        go_enter Tryz.func17, Tryz.ntmps17
        go_wp2_with fail
        refine (ValidCountWheel_any _ _ _ _ zs _ (by exact Ints.below (H.out) (by (repeat (first | with_reducible exact Below.refl _ _ | with_reducible refine below_alloc ?_ _ | with_reducible refine below_drewN ?_ _ | with_reducible refine Below.drew ?_ | ((with_reducible refine below_set ?_ ?_ _); rotate_left; (focus (first | (simp; done) | (simp; omega) | omega))) | with_reducible refine below_call ?_ (by assumption))))) (by exact Below.size (B := w.heap.size) (w := w) (by (repeat (first | with_reducible exact Below.refl _ _ | with_reducible refine below_alloc ?_ _ | with_reducible refine below_drewN ?_ _ | with_reducible refine Below.drew ?_ | ((with_reducible refine below_set ?_ ?_ _); rotate_left; (focus (first | (simp; done) | (simp; omega) | omega))) | with_reducible refine below_call ?_ (by assumption))))) hn).mono ?_
        rintro e w1 ⟨rfl, hb1⟩
        obtain ⟨hc1, hf1, hs1⟩ := bcell hb1
        (try (refine cut_ (p := w.heap.size < w1.heap.size) ?_ ?_; (focus (refine hs1 _ ?_; first | assumption | omega | (simp [go_sem]; done) | (simp [go_sem]; omega))); intro hl1a))
        (try (refine cut_ (p := w.heap.size + 1 < w1.heap.size) ?_ ?_; (focus (refine hs1 _ ?_; first | assumption | omega | (simp [go_sem]; done) | (simp [go_sem]; omega))); intro hl1b))
        (try (refine cut_ (p := w.heap.size + 1 + 1 < w1.heap.size) ?_ ?_; (focus (refine hs1 _ ?_; first | assumption | omega | (simp [go_sem]; done) | (simp [go_sem]; omega))); intro hl1c))
        go_wp2_with fail
        refine (isNotch_any _ _ _ _ _ hn).mono ?_
        rintro e w2 ⟨rfl, hb2⟩
        obtain ⟨hc2, hf2, hs2⟩ := bcell hb2
        (try (refine cut_ (p := w.heap.size < w2.heap.size) ?_ ?_; (focus (refine hs2 _ ?_; first | assumption | omega | (simp [go_sem]; done) | (simp [go_sem]; omega))); intro hl2a))
        (try (refine cut_ (p := w.heap.size + 1 < w2.heap.size) ?_ ?_; (focus (refine hs2 _ ?_; first | assumption | omega | (simp [go_sem]; done) | (simp [go_sem]; omega))); intro hl2b))
        (try (refine cut_ (p := w.heap.size + 1 + 1 < w2.heap.size) ?_ ?_; (focus (refine hs2 _ ?_; first | assumption | omega | (simp [go_sem]; done) | (simp [go_sem]; omega))); intro hl2c))
        go_wp2_with (go_at_call 39; refine (within_any _ _ _ _).mono ?_; rintro e w' ⟨rfl, rfl⟩)
        go_ret3
        exact ⟨none, 0, 0, rfl, Own.nil_, by (repeat (first | with_reducible exact Below.refl _ _ | with_reducible refine below_alloc ?_ _ | with_reducible refine below_drewN ?_ _ | with_reducible refine Below.drew ?_ | ((with_reducible refine below_set ?_ ?_ _); rotate_left; (focus (first | (simp; done) | (simp; omega) | omega))) | with_reducible refine below_call ?_ (by assumption)))⟩
      · have hx := inB_yes hi
        have hm := inB_yes hb
        obtain ⟨v1, v2, v3⟩ := vWheel_yes hv
        obtain ⟨x, rfl⟩ := Int.eq_ofNat_of_zero_le hx.1
        obtain ⟨m, rfl⟩ := Int.eq_ofNat_of_zero_le hm.1
        have hf := sm_ok hv (show (inB (x : Int) 0 ((n : Int) - 1) && inB (m : Int) 0 500) = true by rw [hi, hb]; rfl)
        rw [hf.1, hf.2.1, hf.2.2]
        clear hf
        rw [hl] at v2
        have qr : ((x : Int) + (m : Int)).tmod (n : Int) = (((x + m) % n : Nat) : Int) := rem_i64 (x + m) n v2 hn (by omega)
        have qw : IntKind.i64.wrap ((x : Int) + (m : Int)) = (x : Int) + (m : Int) := IntWalk.i64_in _ (by omega)
        generalize (x + m) % n = J at *
        clear v1 v3 hl
        go_enter Tryz.func17, Tryz.ntmps17
        go_wp2_with fail
        refine (ValidCountWheel_any _ _ _ _ zs _ (by exact Ints.below (H.out) (by (repeat (first | with_reducible exact Below.refl _ _ | with_reducible refine below_alloc ?_ _ | with_reducible refine below_drewN ?_ _ | with_reducible refine Below.drew ?_ | ((with_reducible refine below_set ?_ ?_ _); rotate_left; (focus (first | (simp; done) | (simp; omega) | omega))) | with_reducible refine below_call ?_ (by assumption))))) (by exact Below.size (B := w.heap.size) (w := w) (by (repeat (first | with_reducible exact Below.refl _ _ | with_reducible refine below_alloc ?_ _ | with_reducible refine below_drewN ?_ _ | with_reducible refine Below.drew ?_ | ((with_reducible refine below_set ?_ ?_ _); rotate_left; (focus (first | (simp; done) | (simp; omega) | omega))) | with_reducible refine below_call ?_ (by assumption))))) hn).mono ?_
        rintro e w1 ⟨rfl, hb1⟩
        obtain ⟨hc1, hf1, hs1⟩ := bcell hb1
        (try (refine cut_ (p := w.heap.size < w1.heap.size) ?_ ?_; (focus (refine hs1 _ ?_; first | assumption | omega | (simp [go_sem]; done) | (simp [go_sem]; omega))); intro hl1a))
        (try (refine cut_ (p := w.heap.size + 1 < w1.heap.size) ?_ ?_; (focus (refine hs1 _ ?_; first | assumption | omega | (simp [go_sem]; done) | (simp [go_sem]; omega))); intro hl1b))
        (try (refine cut_ (p := w.heap.size + 1 + 1 < w1.heap.size) ?_ ?_; (focus (refine hs1 _ ?_; first | assumption | omega | (simp [go_sem]; done) | (simp [go_sem]; omega))); intro hl1c))
        go_wp2_with fail
        refine (isNotch_any _ _ _ _ _ hn).mono ?_
        rintro e w2 ⟨rfl, hb2⟩
        obtain ⟨hc2, hf2, hs2⟩ := bcell hb2
        (try (refine cut_ (p := w.heap.size < w2.heap.size) ?_ ?_; (focus (refine hs2 _ ?_; first | assumption | omega | (simp [go_sem]; done) | (simp [go_sem]; omega))); intro hl2a))
        (try (refine cut_ (p := w.heap.size + 1 < w2.heap.size) ?_ ?_; (focus (refine hs2 _ ?_; first | assumption | omega | (simp [go_sem]; done) | (simp [go_sem]; omega))); intro hl2b))
        (try (refine cut_ (p := w.heap.size + 1 + 1 < w2.heap.size) ?_ ?_; (focus (refine hs2 _ ?_; first | assumption | omega | (simp [go_sem]; done) | (simp [go_sem]; omega))); intro hl2c))
        have B2 : Below w.heap.size w w2 := by (repeat (first | with_reducible exact Below.refl _ _ | with_reducible refine below_alloc ?_ _ | with_reducible refine below_drewN ?_ _ | with_reducible refine Below.drew ?_ | ((with_reducible refine below_set ?_ ?_ _); rotate_left; (focus (first | (simp; done) | (simp; omega) | omega))) | with_reducible refine below_call ?_ (by assumption)))
        have l2 : w2.cell? ⟨w.heap.size, 0, none⟩ = some (.slice A n c) := by simp [go_sem, hc2, hc1, *]
        have z2 : w.heap.size < w2.heap.size := by omega
        clear hc1 hf1 hs1 hb1 hc2 hf2 hs2 hb2
        have BH := Lib.hid B2
        go_wp2_with (go_at_call 39; refine (within_any _ _ _ _).mono ?_; rintro e w' ⟨rfl, rfl⟩)
        go_loopw [9, 10] (fun l t wr => ∃ (k c' : Nat) (L : Option Addr), t = .int .i64 ((x + k : Nat) : Int) ∧ k ≤ m ∧ l = .slice L k c' ∧ Hid (Own wr w2.heap.size L k c' (manyL zs n x k)) ∧ Below w2.heap.size w2 wr) (fun _ t _ => x + m - (intOf t).toNat)
        case atStart => exact ⟨0, 0, _, rfl, Nat.zero_le _, rfl, Lib.hid Own.nil_, Below.refl _ _⟩
        case round =>
          obtain ⟨k, c', L, rfl, hk, rfl, ho, hB⟩ := hrel
          have hsz : w2.heap.size ≤ wr.heap.size := hB.size
          have hlt0 : w.heap.size < wr.heap.size := by omega
          have hbx : wr.cell? ⟨w.heap.size, 0, none⟩ = some (.slice A n c) := by rw [hB.cell (p := ⟨w.heap.size, 0, none⟩) (by simp; omega)]; exact l2
          have HB := Lib.hid hB
          clear hB
          by_cases hlt : k < m
          · have hs := manyL_succ zs n x k
            have hg := fun (W : World) (h1 : Ints W w.heap.size A n zs) (h2 : w.heap.size ≤ W.heap.size) => gapAt_any A n c w.heap.size zs ((x + k : Nat) : Int) W h1 h2 v2 hn (by omega) (by omega)
            simp only [Int.toNat_natCast] at hg
            generalize zs.getD ((x + k) % n) 0 = y at *
            have HG := Lib.hid hg
            have HS := Lib.hid hs
            clear hg hs
            go_wp2_with (first | (go_at_call 40; refine (HG.out _ (Ints.below H.out (BH.out.trans (HB.out.mono (by omega)))) (by omega)).mono ?_; rintro e w3 ⟨rfl, hb3⟩; have z3 : wr.heap.size ≤ w3.heap.size := hb3.size; have HB3 := Lib.hid hb3; clear hb3) | (at_builtin; refine wpList_app rfl _ _ rfl _ w2.heap.size _ _ _ (manyL zs n x k) rfl ((Own.call ho.out HB3.out).alloc _) w3.heap.size rfl y (by simp [go_sem]) (by omega) (by simp; omega) ?_; intro L2 c2 w4 ho2 hb2; have HO2 := Lib.hid ho2; clear ho2))
            go_roundw
            case rel => exact ⟨k + 1, c2, L2, by go_num, by omega, rfl, by rw [HS.out]; exact HO2, ((HB.out.trans (HB3.out.mono (by omega))).alloc (by omega) _).trans hb2⟩
            case measure => simp [intOf]; omega
          · have HE := Lib.hid (show k = m by omega)
            have hn0 : ((n : Int) == 0) = false := by rw [beq_eq_false_iff_ne]; omega
            have n2 : ¬ ((n : Int) = 0) := by omega
            have n3 : ¬ (n = 0) := by omega
            have BB : Below w.heap.size w wr := BH.out.trans (HB.out.mono (by omega))
            go_wp2
            go_quiet (fail)
            go_wp2
            go_ret3
            refine ⟨L, k, c', rfl, ?_, by first | exact BB | exact below_drewN BB _ | exact Below.drew BB⟩
            have := ho.out.low (b0 := w.heap.size) (by omega)
            rw [HE.out] at this ⊢; exact this
end Go.Proofs.YtajcbppndkkbpaaGreatDoor
