/- The two functions SameCycle. No conditions but that wheels have at most 2^20 gaps and that their slices are no longer than their capacities. -/
import Derived.Test.YtajcbppndkkbpaaGreatDoorTurn2
import Derived.Test.YtajcbppndkkbpaaGreatDoorSliceEq
import Derived.Test.YtajcbppndkkbpaaGreatDoorWork1
namespace Go.Proofs.YtajcbppndkkbpaaGreatDoor
open Go.RowKit
set_option linter.unusedVariables false
set_option linter.unusedSimpArgs false
set_option maxRecDepth 8000
/-- whether some turning of zs is ys -/
def anyTurn (zs ys : List Int) (n : Nat) : Bool := (List.range n).any fun k => decide (zs.drop k ++ zs.take k = ys)
theorem anyTurn_yes {zs ys : List Int} {n k : Nat} (hk : k < n) (h : decide (zs.drop k ++ zs.take k = ys) = true) : anyTurn zs ys n = true := by
  unfold anyTurn; rw [List.any_eq_true]; exact ⟨k, by simpa using hk, h⟩
theorem anyTurn_no {zs ys : List Int} {n : Nat} (h : ∀ k, k < n → decide (zs.drop k ++ zs.take k = ys) = false) : anyTurn zs ys n = false := by
  unfold anyTurn; rw [List.any_eq_false]; intro k hk; rw [h k (by simpa using hk)]; decide
theorem anyTurn_len {zs ys : List Int} {n : Nat} (h : zs.length ≠ ys.length) : anyTurn zs ys n = false := anyTurn_no fun k _ => decide_eq_false fun e => h (by rw [← e]; simp; omega)
def cycB (zs ys : List Int) (n : Nat) : Bool := vWheel zs && (vWheel ys && anyTurn zs ys n)
set_option maxHeartbeats 4000000 in
theorem SameCycle_any (A A' : Option Addr) (n c n' c' B B' : Nat) (zs ys : List Int) (w : World) (h : Ints w B A n zs) (h' : Ints w B' A' n' ys) (hB : B ≤ w.heap.size) (hB' : B' ≤ w.heap.size) (hn : n ≤ 1048576) (hn' : n' ≤ 1048576) (hc : n ≤ c) (hcm : c ≤ 9223372036854775807) :
    Calls Tryz.prog 15 #[.agg #[.slice A n c], .agg #[.slice A' n' c']] w fun e w' => e = .returned (.bool (cycB zs ys n)) ∧ Below w.heap.size w w' := by
  have hl := h.len
  have hl' := h'.len
  have H := Lib.hid (h.more hB)
  have H' := Lib.hid (h'.more hB')
  clear h h'
  have cV := fun (W : World) (h : Ints W w.heap.size A n zs) (h2 : w.heap.size ≤ W.heap.size) => ValidCountWheel_any A n c w.heap.size zs W h h2 hn
  have cU := fun (W : World) (h : Ints W w.heap.size A' n' ys) (h2 : w.heap.size ≤ W.heap.size) => ValidCountWheel_any A' n' c' w.heap.size ys W h h2 hn'
  cases hv : vWheel zs
  · rw [show cycB zs ys n = false by rw [cycB, hv]; rfl]
    simp only [hv] at cV
    have CV := Lib.hid cV
    clear cV cU hv
    go_enter Tryz.func15, Tryz.ntmps15
    go_wp2_with fail
    go_at_call 19
    refine (CV.out _ (by exact Ints.below (H.out) (by (repeat (first | with_reducible exact Below.refl _ _ | with_reducible refine below_alloc ?_ _ | with_reducible refine below_drewN ?_ _ | with_reducible refine Below.drew ?_ | ((with_reducible refine below_set ?_ ?_ _); rotate_left; (focus (first | (simp; done) | (simp; omega) | omega))) | with_reducible refine below_call ?_ (by assumption))))) (by exact Below.size (B := w.heap.size) (w := w) (by (repeat (first | with_reducible exact Below.refl _ _ | with_reducible refine below_alloc ?_ _ | with_reducible refine below_drewN ?_ _ | with_reducible refine Below.drew ?_ | ((with_reducible refine below_set ?_ ?_ _); rotate_left; (focus (first | (simp; done) | (simp; omega) | omega))) | with_reducible refine below_call ?_ (by assumption)))))).mono ?_
    rintro e w1 ⟨rfl, hb1⟩
    obtain ⟨hc1, hf1, hs1⟩ := bcell hb1
    (try (refine cut_ (p := w.heap.size < w1.heap.size) ?_ ?_; (focus (refine hs1 _ ?_; first | assumption | omega | (simp [go_sem]; done) | (simp [go_sem]; omega))); intro hl1a))
    (try (refine cut_ (p := w.heap.size + 1 < w1.heap.size) ?_ ?_; (focus (refine hs1 _ ?_; first | assumption | omega | (simp [go_sem]; done) | (simp [go_sem]; omega))); intro hl1b))
    (try (refine cut_ (p := w.heap.size + 1 + 1 < w1.heap.size) ?_ ?_; (focus (refine hs1 _ ?_; first | assumption | omega | (simp [go_sem]; done) | (simp [go_sem]; omega))); intro hl1c))
    go_wp2
    go_ret
    exact ⟨rfl, by (repeat (first | with_reducible exact Below.refl _ _ | with_reducible refine below_alloc ?_ _ | with_reducible refine below_drewN ?_ _ | with_reducible refine Below.drew ?_ | ((with_reducible refine below_set ?_ ?_ _); rotate_left; (focus (first | (simp; done) | (simp; omega) | omega))) | with_reducible refine below_call ?_ (by assumption)))⟩
  simp only [hv] at cV
  cases hu : vWheel ys
  · rw [show cycB zs ys n = false by rw [cycB, hu]; simp]
    simp only [hu] at cU
    have CV := Lib.hid cV
    have CU := Lib.hid cU
    clear cV cU hv hu
    go_enter Tryz.func15, Tryz.ntmps15
    go_wp2_with fail
    go_at_call 19
    refine (CV.out _ (by exact Ints.below (H.out) (by (repeat (first | with_reducible exact Below.refl _ _ | with_reducible refine below_alloc ?_ _ | with_reducible refine below_drewN ?_ _ | with_reducible refine Below.drew ?_ | ((with_reducible refine below_set ?_ ?_ _); rotate_left; (focus (first | (simp; done) | (simp; omega) | omega))) | with_reducible refine below_call ?_ (by assumption))))) (by exact Below.size (B := w.heap.size) (w := w) (by (repeat (first | with_reducible exact Below.refl _ _ | with_reducible refine below_alloc ?_ _ | with_reducible refine below_drewN ?_ _ | with_reducible refine Below.drew ?_ | ((with_reducible refine below_set ?_ ?_ _); rotate_left; (focus (first | (simp; done) | (simp; omega) | omega))) | with_reducible refine below_call ?_ (by assumption)))))).mono ?_
    rintro e w1 ⟨rfl, hb1⟩
    obtain ⟨hc1, hf1, hs1⟩ := bcell hb1
    (try (refine cut_ (p := w.heap.size < w1.heap.size) ?_ ?_; (focus (refine hs1 _ ?_; first | assumption | omega | (simp [go_sem]; done) | (simp [go_sem]; omega))); intro hl1a))
    (try (refine cut_ (p := w.heap.size + 1 < w1.heap.size) ?_ ?_; (focus (refine hs1 _ ?_; first | assumption | omega | (simp [go_sem]; done) | (simp [go_sem]; omega))); intro hl1b))
    (try (refine cut_ (p := w.heap.size + 1 + 1 < w1.heap.size) ?_ ?_; (focus (refine hs1 _ ?_; first | assumption | omega | (simp [go_sem]; done) | (simp [go_sem]; omega))); intro hl1c))
    go_wp2_with fail
    go_at_call 19
    refine (CU.out _ (by exact Ints.below (H'.out) (by (repeat (first | with_reducible exact Below.refl _ _ | with_reducible refine below_alloc ?_ _ | with_reducible refine below_drewN ?_ _ | with_reducible refine Below.drew ?_ | ((with_reducible refine below_set ?_ ?_ _); rotate_left; (focus (first | (simp; done) | (simp; omega) | omega))) | with_reducible refine below_call ?_ (by assumption))))) (by exact Below.size (B := w.heap.size) (w := w) (by (repeat (first | with_reducible exact Below.refl _ _ | with_reducible refine below_alloc ?_ _ | with_reducible refine below_drewN ?_ _ | with_reducible refine Below.drew ?_ | ((with_reducible refine below_set ?_ ?_ _); rotate_left; (focus (first | (simp; done) | (simp; omega) | omega))) | with_reducible refine below_call ?_ (by assumption)))))).mono ?_
    rintro e w2 ⟨rfl, hb2⟩
    obtain ⟨hc2, hf2, hs2⟩ := bcell hb2
    (try (refine cut_ (p := w.heap.size < w2.heap.size) ?_ ?_; (focus (refine hs2 _ ?_; first | assumption | omega | (simp [go_sem]; done) | (simp [go_sem]; omega))); intro hl2a))
    (try (refine cut_ (p := w.heap.size + 1 < w2.heap.size) ?_ ?_; (focus (refine hs2 _ ?_; first | assumption | omega | (simp [go_sem]; done) | (simp [go_sem]; omega))); intro hl2b))
    (try (refine cut_ (p := w.heap.size + 1 + 1 < w2.heap.size) ?_ ?_; (focus (refine hs2 _ ?_; first | assumption | omega | (simp [go_sem]; done) | (simp [go_sem]; omega))); intro hl2c))
    go_wp2
    go_ret
    exact ⟨rfl, by (repeat (first | with_reducible exact Below.refl _ _ | with_reducible refine below_alloc ?_ _ | with_reducible refine below_drewN ?_ _ | with_reducible refine Below.drew ?_ | ((with_reducible refine below_set ?_ ?_ _); rotate_left; (focus (first | (simp; done) | (simp; omega) | omega))) | with_reducible refine below_call ?_ (by assumption)))⟩
  · simp only [hu] at cU
    have hv' := hv
    have hcy : cycB zs ys n = anyTurn zs ys n := by rw [cycB, hv, hu]; simp
    rw [hcy]
    obtain ⟨_, v2, v3⟩ := vWheel_yes hv'
    obtain ⟨b, off, rfl, _⟩ := H.out.2 (by omega)
    have CT := Lib.hid (fun (W : World) (k : Nat) (hk : k < n) (h : Ints W w.heap.size (some ⟨b, off, none⟩) n zs) (h2 : w.heap.size ≤ W.heap.size) => turned_any b off n c w.heap.size k zs W h h2 hk hc hn hcm)
    have CE := Lib.hid (fun (W : World) (L : Option Addr) (d : Nat) (G : List Int) (BB : Nat) (h : Ints W BB L n G) (h' : Ints W w.heap.size A' n' ys) => slicesEqual_any L A' n n' d c' BB w.heap.size G ys W h h' (by omega) (by omega))
    have hfld := fun (W : World) (L : Option Addr) (m d : Nat) => (show (Instr.field 26 (.agg #[.slice L m d]) 0).run Tryz.prog W = .ok (.slice L m d) W from by kernel_rfl)
    have CV := Lib.hid cV
    have CU := Lib.hid cU
    clear cV cU hv hu hv' hcy
    go_enter Tryz.func15, Tryz.ntmps15
    go_wp2_with fail
    go_at_call 19
    refine (CV.out _ (by exact Ints.below (H.out) (by (repeat (first | with_reducible exact Below.refl _ _ | with_reducible refine below_alloc ?_ _ | with_reducible refine below_drewN ?_ _ | with_reducible refine Below.drew ?_ | ((with_reducible refine below_set ?_ ?_ _); rotate_left; (focus (first | (simp; done) | (simp; omega) | omega))) | with_reducible refine below_call ?_ (by assumption))))) (by exact Below.size (B := w.heap.size) (w := w) (by (repeat (first | with_reducible exact Below.refl _ _ | with_reducible refine below_alloc ?_ _ | with_reducible refine below_drewN ?_ _ | with_reducible refine Below.drew ?_ | ((with_reducible refine below_set ?_ ?_ _); rotate_left; (focus (first | (simp; done) | (simp; omega) | omega))) | with_reducible refine below_call ?_ (by assumption)))))).mono ?_
    rintro e w1 ⟨rfl, hb1⟩
    obtain ⟨hc1, hf1, hs1⟩ := bcell hb1
    (try (refine cut_ (p := w.heap.size < w1.heap.size) ?_ ?_; (focus (refine hs1 _ ?_; first | assumption | omega | (simp [go_sem]; done) | (simp [go_sem]; omega))); intro hl1a))
    (try (refine cut_ (p := w.heap.size + 1 < w1.heap.size) ?_ ?_; (focus (refine hs1 _ ?_; first | assumption | omega | (simp [go_sem]; done) | (simp [go_sem]; omega))); intro hl1b))
    (try (refine cut_ (p := w.heap.size + 1 + 1 < w1.heap.size) ?_ ?_; (focus (refine hs1 _ ?_; first | assumption | omega | (simp [go_sem]; done) | (simp [go_sem]; omega))); intro hl1c))
    go_wp2_with fail
    go_at_call 19
    refine (CU.out _ (by exact Ints.below (H'.out) (by (repeat (first | with_reducible exact Below.refl _ _ | with_reducible refine below_alloc ?_ _ | with_reducible refine below_drewN ?_ _ | with_reducible refine Below.drew ?_ | ((with_reducible refine below_set ?_ ?_ _); rotate_left; (focus (first | (simp; done) | (simp; omega) | omega))) | with_reducible refine below_call ?_ (by assumption))))) (by exact Below.size (B := w.heap.size) (w := w) (by (repeat (first | with_reducible exact Below.refl _ _ | with_reducible refine below_alloc ?_ _ | with_reducible refine below_drewN ?_ _ | with_reducible refine Below.drew ?_ | ((with_reducible refine below_set ?_ ?_ _); rotate_left; (focus (first | (simp; done) | (simp; omega) | omega))) | with_reducible refine below_call ?_ (by assumption)))))).mono ?_
    rintro e w2 ⟨rfl, hb2⟩
    obtain ⟨hc2, hf2, hs2⟩ := bcell hb2
    (try (refine cut_ (p := w.heap.size < w2.heap.size) ?_ ?_; (focus (refine hs2 _ ?_; first | assumption | omega | (simp [go_sem]; done) | (simp [go_sem]; omega))); intro hl2a))
    (try (refine cut_ (p := w.heap.size + 1 < w2.heap.size) ?_ ?_; (focus (refine hs2 _ ?_; first | assumption | omega | (simp [go_sem]; done) | (simp [go_sem]; omega))); intro hl2b))
    (try (refine cut_ (p := w.heap.size + 1 + 1 < w2.heap.size) ?_ ?_; (focus (refine hs2 _ ?_; first | assumption | omega | (simp [go_sem]; done) | (simp [go_sem]; omega))); intro hl2c))
    have y1 : w.heap.size + 1 < w1.heap.size := by have := hb1.size; simp at this; omega
    have W2 : Work1 w2 w.heap.size (.slice (some ⟨b, off, none⟩) n c) := (((work1_new w 26 _).alloc _).call hb1).call hb2
    have U2 : Work1 w2 (w.heap.size + 1) (.slice A' n' c') := by have := ((work1_new (w.alloc (.cells #[.slice (some ⟨b, off, none⟩) n c] 26)) 26 (.slice A' n' c')).call hb1).call hb2; simpa using this
    have B2 : Below w.heap.size w w2 := by (repeat (first | with_reducible exact Below.refl _ _ | with_reducible refine below_alloc ?_ _ | with_reducible refine below_drewN ?_ _ | with_reducible refine Below.drew ?_ | ((with_reducible refine below_set ?_ ?_ _); rotate_left; (focus (first | (simp; done) | (simp; omega) | omega))) | with_reducible refine below_call ?_ (by assumption)))
    have HW2 := Lib.hid W2
    have HU2 := Lib.hid U2
    have l2 := W2.1
    have k2 := U2.1
    clear W2 U2 hc1 hf1 hs1 hb1 hc2 hf2 hs2 hb2
    go_wp2
    go_loopw [17] (fun t wr => ∃ k : Nat, t = .int .i64 (k : Int) ∧ k ≤ n ∧ Hid (∀ j, j < k → decide (zs.drop j ++ zs.take j = ys) = false) ∧ Hid (Work1 wr w.heap.size (.slice (some ⟨b, off, none⟩) n c)) ∧ Hid (Work1 wr (w.heap.size + 1) (.slice A' n' c')) ∧ Below w.heap.size w wr) (fun t _ => n - (intOf t).toNat)
    case atStart => exact ⟨0, rfl, Nat.zero_le _, Lib.hid (fun j hj => absurd hj (by omega)), HW2, HU2, B2⟩
    case round =>
      obtain ⟨k, rfl, hk, HP, HW, HU, hB2⟩ := hrel
      have lr := HW.out.1
      have kr := HU.out.1
      have z1 := HW.out.lt
      have z2 := HU.out.lt
      clear l2 k2
      by_cases hlt : k < n
      · obtain ⟨dd, hdd⟩ : ∃ dd, decide (zs.drop k ++ zs.take k = ys) = dd := ⟨_, rfl⟩
        have cE2 := fun (W : World) (L : Option Addr) (d BB : Nat) (h : Ints W BB L n (zs.drop k ++ zs.take k)) (h' : Ints W w.heap.size A' n' ys) => CE.out W L d _ BB h h'
        simp only [hdd] at cE2
        have CE2 := Lib.hid cE2
        have HD := Lib.hid hdd
        have HB := Lib.hid hB2
        have yr := Below.refl wr.heap.size wr
        clear hdd cE2
        go_wp2
        go_region_held3 (fun w' => w'.cell? ⟨w.heap.size, 0, none⟩ = some (.slice (some ⟨b, off, none⟩) n c) ∧ w'.cell? ⟨w.heap.size + 1, 0, none⟩ = some (.slice A' n' c') ∧ w.heap.size < w'.heap.size ∧ w.heap.size + 1 < w'.heap.size ∧ Below w.heap.size w w' ∧ Below wr.heap.size wr w')
          (first | ((try go_split_ands); (try dsimp only); refine ⟨?_, ?_, ?_, ?_, ?_, ?_⟩ <;> first | (exact cell_call (by assumption) (by assumption) (by assumption)) | (exact lt_call (by assumption) (by assumption)) | (exact below_call' (by assumption) (by assumption)) | (exact Below.drew (by assumption)) | (with_reducible assumption) | (simp; done) | (simp [*]; done) | ((repeat (first | with_reducible exact Below.refl _ _ | with_reducible refine below_alloc ?_ _ | with_reducible refine below_drewN ?_ _ | with_reducible refine Below.drew ?_ | ((with_reducible refine below_set ?_ ?_ _); rotate_left; (focus (first | (simp; done) | (simp; omega) | omega))) | with_reducible refine below_call ?_ (by assumption))); done) | omega | (simp; omega) | (simp [go_sem]; done) | (simp [go_sem, *]; done)))
          (first
            | (go_at_call 21; go_split_ands; refine (CT.out _ k hlt (by exact Ints.below H.out (by assumption)) (by exact Below.size (B := w.heap.size) (w := w) (by assumption))).mono ?_; rintro e w3 ⟨L, c3, rfl, ho3, hb3⟩; have O3 := Lib.hid ho3; clear ho3)
            | (go_at_call 37; go_split_ands; refine (CE2.out _ _ _ _ (by exact Own.ints O3.out (Nat.le_refl _)) (by exact Ints.below H'.out (by assumption))).mono ?_; rintro e w4 ⟨rfl, hq4⟩; have hb4 : Below w3.heap.size w3 w4 := (by obtain ⟨mq, rfl⟩ := hq4; exact below_drewN (Below.refl _ _) _); clear hq4))
        go_split_ands
        have b4 : Below wr.heap.size wr w4 := by assumption
        have B4 : Below w.heap.size w w4 := by assumption
        have HW4 := Lib.hid (HW.out.call b4)
        have HU4 := Lib.hid (HU.out.call b4)
        clear hb3 hb4 b4 yr O3
        cases dd
        · go_wp2
          go_roundw
          case rel =>
            refine ⟨k + 1, by go_num, by omega, Lib.hid (fun j hj => ?_), HW4, HU4, B4⟩
            rcases Nat.lt_or_ge j k with h1 | h1
            · exact HP.out j h1
            · have : j = k := by omega
              rw [this]; exact HD.out
          case measure => simp [intOf]; omega
        · go_wp2
          go_ret
          exact ⟨ret_bool (anyTurn_yes hlt HD.out).symm, B4⟩
      · have HP2 : Hid (∀ j, j < n → decide (zs.drop j ++ zs.take j = ys) = false) := Lib.hid (fun j hj => HP.out j (by omega))
        go_wp2
        go_ret
        exact ⟨ret_bool (anyTurn_no HP2.out).symm, hB2⟩
set_option maxHeartbeats 4000000 in
theorem specSameCycle_any (A A' : Option Addr) (n c n' c' B B' : Nat) (zs ys : List Int) (w : World) (h : Ints w B A n zs) (h' : Ints w B' A' n' ys) (hB : B ≤ w.heap.size) (hB' : B' ≤ w.heap.size) (hn : n ≤ 1048576) (hn' : n' ≤ 1048576) (hc : n ≤ c) (hcm : c ≤ 9223372036854775807) :
    Calls Tryz.prog 16 #[.agg #[.slice A n c], .agg #[.slice A' n' c']] w fun e w' => e = .returned (.bool (cycB zs ys n)) ∧ Below w.heap.size w w' := by
  have hl := h.len
  have hl' := h'.len
  have H := Lib.hid (h.more hB)
  have H' := Lib.hid (h'.more hB')
  clear h h'
  have cV := fun (W : World) (h : Ints W w.heap.size A n zs) (h2 : w.heap.size ≤ W.heap.size) => l20Ok_any A n c w.heap.size zs W h h2 hn
  have cU := fun (W : World) (h : Ints W w.heap.size A' n' ys) (h2 : w.heap.size ≤ W.heap.size) => l20Ok_any A' n' c' w.heap.size ys W h h2 hn'
  cases hv : vWheel zs
  · rw [show cycB zs ys n = false by rw [cycB, hv]; rfl]
    simp only [hv] at cV
    have CV := Lib.hid cV
    clear cV cU hv
    go_enter Tryz.func16, Tryz.ntmps16
    go_wp2_with fail
    go_at_call 34
    refine (CV.out _ (by exact Ints.below (H.out) (by (repeat (first | with_reducible exact Below.refl _ _ | with_reducible refine below_alloc ?_ _ | with_reducible refine below_drewN ?_ _ | with_reducible refine Below.drew ?_ | ((with_reducible refine below_set ?_ ?_ _); rotate_left; (focus (first | (simp; done) | (simp; omega) | omega))) | with_reducible refine below_call ?_ (by assumption))))) (by exact Below.size (B := w.heap.size) (w := w) (by (repeat (first | with_reducible exact Below.refl _ _ | with_reducible refine below_alloc ?_ _ | with_reducible refine below_drewN ?_ _ | with_reducible refine Below.drew ?_ | ((with_reducible refine below_set ?_ ?_ _); rotate_left; (focus (first | (simp; done) | (simp; omega) | omega))) | with_reducible refine below_call ?_ (by assumption)))))).mono ?_
    rintro e w1 ⟨rfl, hb1⟩
    obtain ⟨hc1, hf1, hs1⟩ := bcell hb1
    (try (refine cut_ (p := w.heap.size < w1.heap.size) ?_ ?_; (focus (refine hs1 _ ?_; first | assumption | omega | (simp [go_sem]; done) | (simp [go_sem]; omega))); intro hl1a))
    (try (refine cut_ (p := w.heap.size + 1 < w1.heap.size) ?_ ?_; (focus (refine hs1 _ ?_; first | assumption | omega | (simp [go_sem]; done) | (simp [go_sem]; omega))); intro hl1b))
    (try (refine cut_ (p := w.heap.size + 1 + 1 < w1.heap.size) ?_ ?_; (focus (refine hs1 _ ?_; first | assumption | omega | (simp [go_sem]; done) | (simp [go_sem]; omega))); intro hl1c))
    go_wp2
    go_ret
    exact ⟨rfl, by (repeat (first | with_reducible exact Below.refl _ _ | with_reducible refine below_alloc ?_ _ | with_reducible refine below_drewN ?_ _ | with_reducible refine Below.drew ?_ | ((with_reducible refine below_set ?_ ?_ _); rotate_left; (focus (first | (simp; done) | (simp; omega) | omega))) | with_reducible refine below_call ?_ (by assumption)))⟩
  simp only [hv] at cV
  cases hu : vWheel ys
  · rw [show cycB zs ys n = false by rw [cycB, hu]; simp]
    simp only [hu] at cU
    have CV := Lib.hid cV
    have CU := Lib.hid cU
    clear cV cU hv hu
    go_enter Tryz.func16, Tryz.ntmps16
    go_wp2_with fail
    go_at_call 34
    refine (CV.out _ (by exact Ints.below (H.out) (by (repeat (first | with_reducible exact Below.refl _ _ | with_reducible refine below_alloc ?_ _ | with_reducible refine below_drewN ?_ _ | with_reducible refine Below.drew ?_ | ((with_reducible refine below_set ?_ ?_ _); rotate_left; (focus (first | (simp; done) | (simp; omega) | omega))) | with_reducible refine below_call ?_ (by assumption))))) (by exact Below.size (B := w.heap.size) (w := w) (by (repeat (first | with_reducible exact Below.refl _ _ | with_reducible refine below_alloc ?_ _ | with_reducible refine below_drewN ?_ _ | with_reducible refine Below.drew ?_ | ((with_reducible refine below_set ?_ ?_ _); rotate_left; (focus (first | (simp; done) | (simp; omega) | omega))) | with_reducible refine below_call ?_ (by assumption)))))).mono ?_
    rintro e w1 ⟨rfl, hb1⟩
    obtain ⟨hc1, hf1, hs1⟩ := bcell hb1
    (try (refine cut_ (p := w.heap.size < w1.heap.size) ?_ ?_; (focus (refine hs1 _ ?_; first | assumption | omega | (simp [go_sem]; done) | (simp [go_sem]; omega))); intro hl1a))
    (try (refine cut_ (p := w.heap.size + 1 < w1.heap.size) ?_ ?_; (focus (refine hs1 _ ?_; first | assumption | omega | (simp [go_sem]; done) | (simp [go_sem]; omega))); intro hl1b))
    (try (refine cut_ (p := w.heap.size + 1 + 1 < w1.heap.size) ?_ ?_; (focus (refine hs1 _ ?_; first | assumption | omega | (simp [go_sem]; done) | (simp [go_sem]; omega))); intro hl1c))
    go_wp2_with fail
    go_at_call 34
    refine (CU.out _ (by exact Ints.below (H'.out) (by (repeat (first | with_reducible exact Below.refl _ _ | with_reducible refine below_alloc ?_ _ | with_reducible refine below_drewN ?_ _ | with_reducible refine Below.drew ?_ | ((with_reducible refine below_set ?_ ?_ _); rotate_left; (focus (first | (simp; done) | (simp; omega) | omega))) | with_reducible refine below_call ?_ (by assumption))))) (by exact Below.size (B := w.heap.size) (w := w) (by (repeat (first | with_reducible exact Below.refl _ _ | with_reducible refine below_alloc ?_ _ | with_reducible refine below_drewN ?_ _ | with_reducible refine Below.drew ?_ | ((with_reducible refine below_set ?_ ?_ _); rotate_left; (focus (first | (simp; done) | (simp; omega) | omega))) | with_reducible refine below_call ?_ (by assumption)))))).mono ?_
    rintro e w2 ⟨rfl, hb2⟩
    obtain ⟨hc2, hf2, hs2⟩ := bcell hb2
    (try (refine cut_ (p := w.heap.size < w2.heap.size) ?_ ?_; (focus (refine hs2 _ ?_; first | assumption | omega | (simp [go_sem]; done) | (simp [go_sem]; omega))); intro hl2a))
    (try (refine cut_ (p := w.heap.size + 1 < w2.heap.size) ?_ ?_; (focus (refine hs2 _ ?_; first | assumption | omega | (simp [go_sem]; done) | (simp [go_sem]; omega))); intro hl2b))
    (try (refine cut_ (p := w.heap.size + 1 + 1 < w2.heap.size) ?_ ?_; (focus (refine hs2 _ ?_; first | assumption | omega | (simp [go_sem]; done) | (simp [go_sem]; omega))); intro hl2c))
    go_wp2
    go_ret
    exact ⟨rfl, by (repeat (first | with_reducible exact Below.refl _ _ | with_reducible refine below_alloc ?_ _ | with_reducible refine below_drewN ?_ _ | with_reducible refine Below.drew ?_ | ((with_reducible refine below_set ?_ ?_ _); rotate_left; (focus (first | (simp; done) | (simp; omega) | omega))) | with_reducible refine below_call ?_ (by assumption)))⟩
  · simp only [hu] at cU
    have hv' := hv
    by_cases hln : n = n'
    rotate_left
    · have hne : ((n : Int) != (n' : Int)) = true := by rw [bne_iff_ne]; omega
      rw [show cycB zs ys n = false by rw [cycB, anyTurn_len (by rw [hl, hl']; exact hln)]; simp]
      have CW := Lib.hid cV
      have CU := Lib.hid cU
      clear cV cU hv hu hv'
      go_enter Tryz.func16, Tryz.ntmps16
      go_wp2_with fail
      go_at_call 34
      refine (CW.out _ (by exact Ints.below (H.out) (by (repeat (first | with_reducible exact Below.refl _ _ | with_reducible refine below_alloc ?_ _ | with_reducible refine below_drewN ?_ _ | with_reducible refine Below.drew ?_ | ((with_reducible refine below_set ?_ ?_ _); rotate_left; (focus (first | (simp; done) | (simp; omega) | omega))) | with_reducible refine below_call ?_ (by assumption))))) (by exact Below.size (B := w.heap.size) (w := w) (by (repeat (first | with_reducible exact Below.refl _ _ | with_reducible refine below_alloc ?_ _ | with_reducible refine below_drewN ?_ _ | with_reducible refine Below.drew ?_ | ((with_reducible refine below_set ?_ ?_ _); rotate_left; (focus (first | (simp; done) | (simp; omega) | omega))) | with_reducible refine below_call ?_ (by assumption)))))).mono ?_
      rintro e w1 ⟨rfl, hb1⟩
      obtain ⟨hc1, hf1, hs1⟩ := bcell hb1
      (try (refine cut_ (p := w.heap.size < w1.heap.size) ?_ ?_; (focus (refine hs1 _ ?_; first | assumption | omega | (simp [go_sem]; done) | (simp [go_sem]; omega))); intro hl1a))
      (try (refine cut_ (p := w.heap.size + 1 < w1.heap.size) ?_ ?_; (focus (refine hs1 _ ?_; first | assumption | omega | (simp [go_sem]; done) | (simp [go_sem]; omega))); intro hl1b))
      (try (refine cut_ (p := w.heap.size + 1 + 1 < w1.heap.size) ?_ ?_; (focus (refine hs1 _ ?_; first | assumption | omega | (simp [go_sem]; done) | (simp [go_sem]; omega))); intro hl1c))
      go_wp2_with fail
      go_at_call 34
      refine (CU.out _ (by exact Ints.below (H'.out) (by (repeat (first | with_reducible exact Below.refl _ _ | with_reducible refine below_alloc ?_ _ | with_reducible refine below_drewN ?_ _ | with_reducible refine Below.drew ?_ | ((with_reducible refine below_set ?_ ?_ _); rotate_left; (focus (first | (simp; done) | (simp; omega) | omega))) | with_reducible refine below_call ?_ (by assumption))))) (by exact Below.size (B := w.heap.size) (w := w) (by (repeat (first | with_reducible exact Below.refl _ _ | with_reducible refine below_alloc ?_ _ | with_reducible refine below_drewN ?_ _ | with_reducible refine Below.drew ?_ | ((with_reducible refine below_set ?_ ?_ _); rotate_left; (focus (first | (simp; done) | (simp; omega) | omega))) | with_reducible refine below_call ?_ (by assumption)))))).mono ?_
      rintro e w2 ⟨rfl, hb2⟩
      obtain ⟨hc2, hf2, hs2⟩ := bcell hb2
      (try (refine cut_ (p := w.heap.size < w2.heap.size) ?_ ?_; (focus (refine hs2 _ ?_; first | assumption | omega | (simp [go_sem]; done) | (simp [go_sem]; omega))); intro hl2a))
      (try (refine cut_ (p := w.heap.size + 1 < w2.heap.size) ?_ ?_; (focus (refine hs2 _ ?_; first | assumption | omega | (simp [go_sem]; done) | (simp [go_sem]; omega))); intro hl2b))
      (try (refine cut_ (p := w.heap.size + 1 + 1 < w2.heap.size) ?_ ?_; (focus (refine hs2 _ ?_; first | assumption | omega | (simp [go_sem]; done) | (simp [go_sem]; omega))); intro hl2c))
      go_wp2
      go_ret
      exact ⟨rfl, by (repeat (first | with_reducible exact Below.refl _ _ | with_reducible refine below_alloc ?_ _ | with_reducible refine below_drewN ?_ _ | with_reducible refine Below.drew ?_ | ((with_reducible refine below_set ?_ ?_ _); rotate_left; (focus (first | (simp; done) | (simp; omega) | omega))) | with_reducible refine below_call ?_ (by assumption)))⟩
    subst hln
    have hne : ((n : Int) != (n : Int)) = false := by simp
    have hcy : cycB zs ys n = anyTurn zs ys n := by rw [cycB, hv, hu]; simp
    rw [hcy]
    obtain ⟨_, v2, v3⟩ := vWheel_yes hv'
    obtain ⟨b, off, rfl, _⟩ := H.out.2 (by omega)
    have CT := Lib.hid (fun (W : World) (k : Nat) (hk : k < n) (h : Ints W w.heap.size (some ⟨b, off, none⟩) n zs) (h2 : w.heap.size ≤ W.heap.size) => l20Turn_any (some ⟨b, off, none⟩) n c w.heap.size k zs W h h2 hk hn)
    have CE := Lib.hid (fun (W : World) (L : Option Addr) (d : Nat) (G : List Int) (BB : Nat) (h : Ints W BB L n G) (h' : Ints W w.heap.size A' n ys) => l00Same_any L A' n n d c' BB w.heap.size G ys W h h' (by omega) (by omega))
    have hfld := fun (W : World) (L : Option Addr) (m d : Nat) => (show (Instr.field 26 (.agg #[.slice L m d]) 0).run Tryz.prog W = .ok (.slice L m d) W from by kernel_rfl)
    have CV := Lib.hid cV
    have CU := Lib.hid cU
    clear cV cU hv hu hv' hcy
    go_enter Tryz.func16, Tryz.ntmps16
    go_wp2_with fail
    go_at_call 34
    refine (CV.out _ (by exact Ints.below (H.out) (by (repeat (first | with_reducible exact Below.refl _ _ | with_reducible refine below_alloc ?_ _ | with_reducible refine below_drewN ?_ _ | with_reducible refine Below.drew ?_ | ((with_reducible refine below_set ?_ ?_ _); rotate_left; (focus (first | (simp; done) | (simp; omega) | omega))) | with_reducible refine below_call ?_ (by assumption))))) (by exact Below.size (B := w.heap.size) (w := w) (by (repeat (first | with_reducible exact Below.refl _ _ | with_reducible refine below_alloc ?_ _ | with_reducible refine below_drewN ?_ _ | with_reducible refine Below.drew ?_ | ((with_reducible refine below_set ?_ ?_ _); rotate_left; (focus (first | (simp; done) | (simp; omega) | omega))) | with_reducible refine below_call ?_ (by assumption)))))).mono ?_
    rintro e w1 ⟨rfl, hb1⟩
    obtain ⟨hc1, hf1, hs1⟩ := bcell hb1
    (try (refine cut_ (p := w.heap.size < w1.heap.size) ?_ ?_; (focus (refine hs1 _ ?_; first | assumption | omega | (simp [go_sem]; done) | (simp [go_sem]; omega))); intro hl1a))
    (try (refine cut_ (p := w.heap.size + 1 < w1.heap.size) ?_ ?_; (focus (refine hs1 _ ?_; first | assumption | omega | (simp [go_sem]; done) | (simp [go_sem]; omega))); intro hl1b))
    (try (refine cut_ (p := w.heap.size + 1 + 1 < w1.heap.size) ?_ ?_; (focus (refine hs1 _ ?_; first | assumption | omega | (simp [go_sem]; done) | (simp [go_sem]; omega))); intro hl1c))
    go_wp2_with fail
    go_at_call 34
    refine (CU.out _ (by exact Ints.below (H'.out) (by (repeat (first | with_reducible exact Below.refl _ _ | with_reducible refine below_alloc ?_ _ | with_reducible refine below_drewN ?_ _ | with_reducible refine Below.drew ?_ | ((with_reducible refine below_set ?_ ?_ _); rotate_left; (focus (first | (simp; done) | (simp; omega) | omega))) | with_reducible refine below_call ?_ (by assumption))))) (by exact Below.size (B := w.heap.size) (w := w) (by (repeat (first | with_reducible exact Below.refl _ _ | with_reducible refine below_alloc ?_ _ | with_reducible refine below_drewN ?_ _ | with_reducible refine Below.drew ?_ | ((with_reducible refine below_set ?_ ?_ _); rotate_left; (focus (first | (simp; done) | (simp; omega) | omega))) | with_reducible refine below_call ?_ (by assumption)))))).mono ?_
    rintro e w2 ⟨rfl, hb2⟩
    obtain ⟨hc2, hf2, hs2⟩ := bcell hb2
    (try (refine cut_ (p := w.heap.size < w2.heap.size) ?_ ?_; (focus (refine hs2 _ ?_; first | assumption | omega | (simp [go_sem]; done) | (simp [go_sem]; omega))); intro hl2a))
    (try (refine cut_ (p := w.heap.size + 1 < w2.heap.size) ?_ ?_; (focus (refine hs2 _ ?_; first | assumption | omega | (simp [go_sem]; done) | (simp [go_sem]; omega))); intro hl2b))
    (try (refine cut_ (p := w.heap.size + 1 + 1 < w2.heap.size) ?_ ?_; (focus (refine hs2 _ ?_; first | assumption | omega | (simp [go_sem]; done) | (simp [go_sem]; omega))); intro hl2c))
    have y1 : w.heap.size + 1 < w1.heap.size := by have := hb1.size; simp at this; omega
    have W2 : Work1 w2 w.heap.size (.slice (some ⟨b, off, none⟩) n c) := (((work1_new w 26 _).alloc _).call hb1).call hb2
    have U2 : Work1 w2 (w.heap.size + 1) (.slice A' n c') := by have := ((work1_new (w.alloc (.cells #[.slice (some ⟨b, off, none⟩) n c] 26)) 26 (.slice A' n c')).call hb1).call hb2; simpa using this
    have B2 : Below w.heap.size w w2 := by (repeat (first | with_reducible exact Below.refl _ _ | with_reducible refine below_alloc ?_ _ | with_reducible refine below_drewN ?_ _ | with_reducible refine Below.drew ?_ | ((with_reducible refine below_set ?_ ?_ _); rotate_left; (focus (first | (simp; done) | (simp; omega) | omega))) | with_reducible refine below_call ?_ (by assumption)))
    have HW2 := Lib.hid W2
    have HU2 := Lib.hid U2
    have l2 := W2.1
    have k2 := U2.1
    clear W2 U2 hc1 hf1 hs1 hb1 hc2 hf2 hs2 hb2
    go_wp2
    go_loopw [5] (fun t wr => ∃ k : Nat, t = .int .i64 (k : Int) ∧ k ≤ n ∧ Hid (∀ j, j < k → decide (zs.drop j ++ zs.take j = ys) = false) ∧ Hid (Work1 wr w.heap.size (.slice (some ⟨b, off, none⟩) n c)) ∧ Hid (Work1 wr (w.heap.size + 1) (.slice A' n c')) ∧ Below w.heap.size w wr) (fun t _ => n - (intOf t).toNat)
    case atStart => exact ⟨0, rfl, Nat.zero_le _, Lib.hid (fun j hj => absurd hj (by omega)), HW2, HU2, B2⟩
    case round =>
      obtain ⟨k, rfl, hk, HP, HW, HU, hB2⟩ := hrel
      have lr := HW.out.1
      have kr := HU.out.1
      have z1 := HW.out.lt
      have z2 := HU.out.lt
      clear l2 k2
      by_cases hlt : k < n
      · obtain ⟨dd, hdd⟩ : ∃ dd, decide (zs.drop k ++ zs.take k = ys) = dd := ⟨_, rfl⟩
        have cE2 := fun (W : World) (L : Option Addr) (d BB : Nat) (h : Ints W BB L n (zs.drop k ++ zs.take k)) (h' : Ints W w.heap.size A' n ys) => CE.out W L d _ BB h h'
        simp only [hdd] at cE2
        have CE2 := Lib.hid cE2
        have HD := Lib.hid hdd
        have HB := Lib.hid hB2
        have yr := Below.refl wr.heap.size wr
        clear hdd cE2
        go_wp2
        go_region_held3 (fun w' => w'.cell? ⟨w.heap.size, 0, none⟩ = some (.slice (some ⟨b, off, none⟩) n c) ∧ w'.cell? ⟨w.heap.size + 1, 0, none⟩ = some (.slice A' n c') ∧ w.heap.size < w'.heap.size ∧ w.heap.size + 1 < w'.heap.size ∧ Below w.heap.size w w' ∧ Below wr.heap.size wr w')
          (first | ((try go_split_ands); (try dsimp only); refine ⟨?_, ?_, ?_, ?_, ?_, ?_⟩ <;> first | (exact cell_call (by assumption) (by assumption) (by assumption)) | (exact lt_call (by assumption) (by assumption)) | (exact below_call' (by assumption) (by assumption)) | (exact Below.drew (by assumption)) | (with_reducible assumption) | (simp; done) | (simp [*]; done) | ((repeat (first | with_reducible exact Below.refl _ _ | with_reducible refine below_alloc ?_ _ | with_reducible refine below_drewN ?_ _ | with_reducible refine Below.drew ?_ | ((with_reducible refine below_set ?_ ?_ _); rotate_left; (focus (first | (simp; done) | (simp; omega) | omega))) | with_reducible refine below_call ?_ (by assumption))); done) | omega | (simp; omega) | (simp [go_sem]; done) | (simp [go_sem, *]; done)))
          (first
            | (go_at_call 23; go_split_ands; refine (CT.out _ k hlt (by exact Ints.below H.out (by assumption)) (by exact Below.size (B := w.heap.size) (w := w) (by assumption))).mono ?_; rintro e w3 ⟨L, c3, rfl, ho3, hb3⟩; have O3 := Lib.hid ho3; clear ho3)
            | (go_at_call 38; go_split_ands; refine (CE2.out _ _ _ _ (by exact Own.ints O3.out (Nat.le_refl _)) (by exact Ints.below H'.out (by assumption))).mono ?_; rintro e w4 ⟨rfl, hq4⟩; have hb4 : Below w3.heap.size w3 w4 := (by obtain ⟨mq, rfl⟩ := hq4; exact below_drewN (Below.refl _ _) _); clear hq4))
        go_split_ands
        have b4 : Below wr.heap.size wr w4 := by assumption
        have B4 : Below w.heap.size w w4 := by assumption
        have HW4 := Lib.hid (HW.out.call b4)
        have HU4 := Lib.hid (HU.out.call b4)
        clear hb3 hb4 b4 yr O3
        cases dd
        · go_wp2
          go_roundw
          case rel =>
            refine ⟨k + 1, by go_num, by omega, Lib.hid (fun j hj => ?_), HW4, HU4, B4⟩
            rcases Nat.lt_or_ge j k with h1 | h1
            · exact HP.out j h1
            · have : j = k := by omega
              rw [this]; exact HD.out
          case measure => simp [intOf]; omega
        · go_wp2
          go_ret
          exact ⟨ret_bool (anyTurn_yes hlt HD.out).symm, B4⟩
      · have HP2 : Hid (∀ j, j < n → decide (zs.drop j ++ zs.take j = ys) = false) := Lib.hid (fun j hj => HP.out j (by omega))
        go_wp2
        go_ret
        exact ⟨ret_bool (anyTurn_no HP2.out).symm, hB2⟩
end Go.Proofs.YtajcbppndkkbpaaGreatDoor
