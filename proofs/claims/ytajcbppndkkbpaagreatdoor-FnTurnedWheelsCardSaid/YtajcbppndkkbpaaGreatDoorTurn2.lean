/- Turned wheels: contracts of the functions that turn a wheel. No conditions but that a wheel has at most 2^20 gaps and that its slice is no longer than its capacity. -/
import Derived.Test.YtajcbppndkkbpaaGreatDoorTurn
import Derived.Deep.RegionHeld3
import Derived.StillTailTactics
namespace Go.Proofs.YtajcbppndkkbpaaGreatDoor
open Go.RowKit
set_option linter.unusedVariables false
set_option linter.unusedSimpArgs false
set_option maxRecDepth 8000
theorem Ints.tail {w : World} {B b off n k : Nat} {zs : List Int} (h : Ints w B (some ⟨b, off, none⟩) n zs) (hk : k ≤ n) : Ints w B (some ⟨b, off + k, none⟩) (n - k) (zs.drop k) := by
  have hl := h.len
  refine ⟨by simp; omega, fun h0 => ?_⟩
  obtain ⟨b', off', e, hb, hc⟩ := h.2 (by omega)
  injection e with e; injection e with e1 e2; subst e1 e2
  refine ⟨b, off + k, rfl, hb, fun j hj => ?_⟩
  rw [Nat.add_assoc, hc (k + j) (by omega)]
  simp [List.getD_eq_getElem?_getD]
theorem Ints.head {w : World} {B b off n k : Nat} {zs : List Int} (h : Ints w B (some ⟨b, off, none⟩) n zs) (hk : k ≤ n) : Ints w B (some ⟨b, off, none⟩) k (zs.take k) := by
  have hl := h.len
  refine ⟨by simp; omega, fun h0 => ?_⟩
  obtain ⟨b', off', e, hb, hc⟩ := h.2 (by omega)
  injection e with e; injection e with e1 e2; subst e1 e2
  refine ⟨b, off, rfl, hb, fun j hj => ?_⟩
  rw [hc j (by omega)]
  simp [List.getD_eq_getElem?_getD, List.getElem?_take, hj]
/-- a call gives a wheel with new gaps -/
def NewWheel (w : World) (n : Nat) (zs : List Int) (e : Ending) (w' : World) : Prop := ∃ A c, e = .returned (.agg #[.slice A n c]) ∧ Own w' w.heap.size A n c zs ∧ Below w.heap.size w w'
set_option maxHeartbeats 4000000 in
theorem turned_any (b off n c B k : Nat) (zs : List Int) (w : World) (h : Ints w B (some ⟨b, off, none⟩) n zs) (hB : B ≤ w.heap.size) (hk : k < n) (hc : n ≤ c) (hn : n ≤ 1048576) (hc2 : c ≤ 9223372036854775807) :
    Calls Tryz.prog 21 #[.agg #[.slice (some ⟨b, off, none⟩) n c], .int .i64 k] w (NewWheel w n (zs.drop k ++ zs.take k)) := by
  have H1 := Lib.hid (Ints.tail (h.more hB) (k := k) (by omega))
  have H2 := Lib.hid (Ints.head (h.more hB) (k := k) (by omega))
  clear h
  have i0 : (0 : Int) ≤ (k : Int) := Int.natCast_nonneg _
  have i1 : (k : Int) ≤ (n : Int) := by omega
  have i2 : (k : Int) ≤ (c : Int) := by omega
  have i3 : (n : Int) ≤ (c : Int) := by omega
  go_enter Tryz.func21, Tryz.ntmps21
  go_wp2
  have B0 : Below w.heap.size w ((w.alloc (.cells #[.slice (some ⟨b, off, none⟩) n c] 26)).alloc (.cells #[.slice none 0 0] 26)) := by (repeat (first | with_reducible exact Below.refl _ _ | with_reducible refine below_alloc ?_ _ | with_reducible refine below_drewN ?_ _ | with_reducible refine Below.drew ?_ | ((with_reducible refine below_set ?_ ?_ _); rotate_left; (focus (first | (simp; done) | (simp; omega) | omega))) | with_reducible refine below_call ?_ (by assumption)))
  have z0 : w.heap.size + 1 < ((w.alloc (.cells #[.slice (some ⟨b, off, none⟩) n c] 26)).alloc (.cells #[.slice none 0 0] 26)).heap.size := by first | (simp; done) | (simp; omega)
  have y0 : w.heap.size < ((w.alloc (.cells #[.slice (some ⟨b, off, none⟩) n c] 26)).alloc (.cells #[.slice none 0 0] 26)).heap.size := by first | (simp; done) | (simp; omega)
  have p0 : ((w.alloc (.cells #[.slice (some ⟨b, off, none⟩) n c] 26)).alloc (.cells #[.slice none 0 0] 26)).cell? ⟨w.heap.size, 0, none⟩ = some (.slice (some ⟨b, off, none⟩) n c) := by simp [go_sem]
  have r0 : ((w.alloc (.cells #[.slice (some ⟨b, off, none⟩) n c] 26)).alloc (.cells #[.slice none 0 0] 26)).cell? ⟨w.heap.size + 1, 0, none⟩ = some (.slice none 0 0) := by simp [go_sem]
  have f0 : ((w.alloc (.cells #[.slice (some ⟨b, off, none⟩) n c] 26)).alloc (.cells #[.slice none 0 0] 26)).frozen? ⟨w.heap.size + 1, 0, none⟩ = false := by simp [go_sem]
  generalize (w.alloc (.cells #[.slice (some ⟨b, off, none⟩) n c] 26)).alloc (.cells #[.slice none 0 0] 26) = w0 at *
  have B00 := B0.size
  have HB0 := Lib.hid B0
  have hck : ¬ (c = k) := by omega
  have e : n - k + k = n := by omega
  have cC := fun (W : World) (q1 : W.cell? ⟨w0.heap.size, 0, none⟩ = some (.slice (some ⟨b, off + k, none⟩) (n - k) (c - k))) (q2 : W.cell? ⟨w0.heap.size, 1, none⟩ = some (.slice (some ⟨b, off, none⟩) k c)) (hb : Below w.heap.size w W) => Concat_two w0.heap.size b (off + k) (n - k) (c - k) b off k c w.heap.size 2 (zs.drop k) (zs.take k) W q1 q2 (Ints.below H1.out hb) (Ints.below H2.out hb) hb.size (by omega) (by omega)
  rw [e] at cC
  have CC := Lib.hid cC
  clear cC e
  go_region_held3 (fun w' => w'.cell? ⟨w.heap.size, 0, none⟩ = some (.slice (some ⟨b, off, none⟩) n c))
    (first | go_keep | exact cell_call hb5 (by simp; omega) (by simp [go_sem, *]) | (simp [go_sem, *]; done))
    ((go_at_call 43; refine (CC.out _ (by simp) (by simp) ((HB0.out.alloc B00 _).drew)).mono ?_; rintro e w5 ⟨L, c5, rfl, ho5, hb5⟩; have O5 := Lib.hid ho5; have r5 : w5.cell? ⟨w.heap.size + 1, 0, none⟩ = some (.slice none 0 0) := cell_call hb5 (by simp; omega) (by simp [go_sem, *]); have f5 : w5.frozen? ⟨w.heap.size + 1, 0, none⟩ = false := fro_call hb5 (by simp; omega) (by simp [go_sem, *]); clear ho5))
  have B5 : Below w.heap.size w w5 := ((HB0.out.alloc B00 _).drew).trans (hb5.mono (by simp; omega))
  have h3 : Own w5 (w0.heap.size + 1) L n c5 (zs.drop k ++ zs.take k) := by simpa using O5.out
  have HO3 := Lib.hid h3
  clear h3 hb5
  go_wp2
  refine bodyPost_ret (v := .agg #[.slice L n c5]) ?_ rfl ⟨L, c5, rfl, ?_, ?_⟩
  · simp [results, Tryz.results21, go_sem, *]
  · refine Own.low (b0 := w.heap.size) (base := w0.heap.size + 1) ?_ (by omega)
    have hfar : Own _ _ _ _ _ _ := HO3.out
    repeat (first | with_reducible exact hfar | ((with_reducible refine Own.far ?_ ?_ _); rotate_left; (focus (first | (simp; done) | (simp; omega)))) | with_reducible refine Own.drewN ?_ _ | ((with_reducible refine Own.alloc ?_ _)))
  · (repeat (first | with_reducible exact B5 | with_reducible refine below_alloc ?_ _ | with_reducible refine below_drewN ?_ _ | with_reducible refine Below.drew ?_ | ((with_reducible refine below_set ?_ ?_ _); rotate_left; (focus (first | (simp; done) | (simp; omega) | omega)))))
set_option maxHeartbeats 2000000 in
theorem l20Turn_any (A : Option Addr) (n c B k : Nat) (zs : List Int) (w : World) (h : Ints w B A n zs) (hB : B ≤ w.heap.size) (hk : k < n) (hn : n ≤ 1048576) :
    Calls Tryz.prog 23 #[.agg #[.slice A n c], .int .i64 k] w (NewWheel w n (zs.drop k ++ zs.take k)) := by
  have hl := h.len
  have H := Lib.hid (h.more hB)
  clear h
  have cM := fun (W : World) (h : Ints W w.heap.size A n zs) (h2 : w.heap.size ≤ W.heap.size) => l20Many_any A n c w.heap.size zs k n W h h2 (by omega) hn (by omega) hn
  have hml := manyL_len zs n k n
  rw [many_turn hl hk] at hml
  simp only [many_turn hl hk] at cM
  generalize zs.drop k ++ zs.take k = G at *
  have CM := Lib.hid cM
  have HML := Lib.hid hml
  clear cM hml hl
  go_enter Tryz.func23, Tryz.ntmps23
  go_wp2_with fail
  go_at_call 45
  refine (CM.out _ ((H.out.alloc (Nat.le_refl _) _).alloc (by simp) _) (by simp; omega)).mono ?_
  rintro e w1 ⟨L, m1, c1, rfl, ho1, hb1⟩
  obtain rfl : m1 = n := by have := ho1.len; have := HML.out; omega
  have r1 : w1.cell? ⟨w.heap.size + 1, 0, none⟩ = some (.slice none 0 0) := cell_call hb1 (by simp) (by simp [go_sem])
  have f1 : w1.frozen? ⟨w.heap.size + 1, 0, none⟩ = false := fro_call hb1 (by simp) (by simp [go_sem])
  have B1 : Below w.heap.size w w1 := by (repeat (first | with_reducible exact Below.refl _ _ | with_reducible refine below_alloc ?_ _ | with_reducible refine below_drewN ?_ _ | with_reducible refine Below.drew ?_ | ((with_reducible refine below_set ?_ ?_ _); rotate_left; (focus (first | (simp; done) | (simp; omega) | omega))) | with_reducible refine below_call ?_ (by assumption)))
  have h3 : Own w1 (w.heap.size + 1 + 1) L m1 c1 G := by simpa using ho1
  have HO3 := Lib.hid h3
  clear ho1 h3 hb1
  go_wp2
  refine bodyPost_ret (v := .agg #[.slice L m1 c1]) ?_ rfl ⟨L, c1, rfl, ?_, ?_⟩
  · simp [results, Tryz.results23, go_sem, *]
  · refine Own.low (b0 := w.heap.size) (base := w.heap.size + 1 + 1) ?_ (by omega)
    have hfar : Own _ _ _ _ _ _ := HO3.out
    repeat (first | with_reducible exact hfar | ((with_reducible refine Own.far ?_ ?_ _); rotate_left; (focus (first | (simp; done) | (simp; omega)))) | with_reducible refine Own.drewN ?_ _ | ((with_reducible refine Own.alloc ?_ _)))
  · (repeat (first | with_reducible exact B1 | with_reducible refine below_alloc ?_ _ | with_reducible refine below_drewN ?_ _ | with_reducible refine Below.drew ?_ | ((with_reducible refine below_set ?_ ?_ _); rotate_left; (focus (first | (simp; done) | (simp; omega) | omega)))))
/-- a result: the number of gaps, the gaps, the code -/
def WR := Nat × List Int × Int
def NewWheelC (w : World) : WR → Ending → World → Prop
  | (n, zs, cd), e, w' => ∃ A c, e = .returned (.tuple #[.agg #[.slice A n c], .int .i64 cd]) ∧ Own w' w.heap.size A n c zs ∧ Below w.heap.size w w'
def badW (cd : Int) : Value := .tuple #[.agg #[.slice none 0 0], .int .i64 cd]
theorem newWheel_bad {w w' : World} {cd : Int} (h : Below w.heap.size w w') : NewWheelC w (0, [], cd) (.returned (badW cd)) w' := ⟨none, 0, rfl, Own.nil_, h⟩
def rTurn (zs : List Int) (n : Nat) (x : Int) : WR := if vWheel zs then if inB x 0 ((n : Int) - 1) then (n, zs.drop x.toNat ++ zs.take x.toNat, 0) else (0, [], 2) else (0, [], 1)
theorem rTurn_bad {zs : List Int} {n : Nat} {x : Int} (h : vWheel zs = false) : rTurn zs n x = (0, [], 1) := by rw [rTurn, h]; rfl
theorem rTurn_far {zs : List Int} {n : Nat} {x : Int} (h : vWheel zs = true) (h' : inB x 0 ((n : Int) - 1) = false) : rTurn zs n x = (0, [], 2) := by rw [rTurn, h, h']; rfl
theorem rTurn_ok {zs : List Int} {n k : Nat} (h : vWheel zs = true) (h' : inB (k : Int) 0 ((n : Int) - 1) = true) : rTurn zs n k = (n, zs.drop k ++ zs.take k, 0) := by rw [rTurn, h, h']; rfl
theorem rTurn_len (zs : List Int) (n : Nat) (x : Int) (hn : n ≤ 1048576) : (rTurn zs n x).1 ≤ 1048576 := by
  cases hv : vWheel zs
  · rw [rTurn_bad hv]; exact Nat.zero_le _
  · cases hi : inB x 0 ((n : Int) - 1)
    · rw [rTurn_far hv hi]; exact Nat.zero_le _
    · obtain ⟨k, rfl⟩ := Int.eq_ofNat_of_zero_le (inB_yes hi).1
      rw [rTurn_ok hv hi]; exact hn
set_option maxHeartbeats 2000000 in
theorem TurnCountWheel_any (A : Option Addr) (n c B : Nat) (zs : List Int) (x : Int) (w : World) (h : Ints w B A n zs) (hB : B ≤ w.heap.size) (hn : n ≤ 1048576) (hc : n ≤ c) (hc2 : c ≤ 9223372036854775807) :
    Calls Tryz.prog 6 #[.agg #[.slice A n c], .int .i64 x] w (NewWheelC w (rTurn zs n x)) := by
  have hl := h.len
  have H := Lib.hid (h.more hB)
  clear h
  have cV := fun (W : World) (h : Ints W w.heap.size A n zs) (h2 : w.heap.size ≤ W.heap.size) => ValidCountWheel_any A n c w.heap.size zs W h h2 hn
  cases hv : vWheel zs
  · rw [rTurn_bad hv]
    simp only [hv] at cV
    have CV := Lib.hid cV
    clear cV hv
    go_enter Tryz.func6, Tryz.ntmps6
    go_wp2_with fail
    go_at_call 19
    refine (CV.out _ (by exact Ints.below (H.out) (by (repeat (first | with_reducible exact Below.refl _ _ | with_reducible refine below_alloc ?_ _ | with_reducible refine below_drewN ?_ _ | with_reducible refine Below.drew ?_ | ((with_reducible refine below_set ?_ ?_ _); rotate_left; (focus (first | (simp; done) | (simp; omega) | omega))) | with_reducible refine below_call ?_ (by assumption))))) (by exact Below.size (B := w.heap.size) (w := w) (by (repeat (first | with_reducible exact Below.refl _ _ | with_reducible refine below_alloc ?_ _ | with_reducible refine below_drewN ?_ _ | with_reducible refine Below.drew ?_ | ((with_reducible refine below_set ?_ ?_ _); rotate_left; (focus (first | (simp; done) | (simp; omega) | omega))) | with_reducible refine below_call ?_ (by assumption)))))).mono ?_
    rintro e w1 ⟨rfl, hb1⟩
    obtain ⟨hc1, hf1, hs1⟩ := bcell hb1
    (try (refine cut_ (p := w.heap.size < w1.heap.size) ?_ ?_; (focus (refine hs1 _ ?_; first | assumption | omega | (simp [go_sem]; done) | (simp [go_sem]; omega))); intro hl1a))
    (try (refine cut_ (p := w.heap.size + 1 < w1.heap.size) ?_ ?_; (focus (refine hs1 _ ?_; first | assumption | omega | (simp [go_sem]; done) | (simp [go_sem]; omega))); intro hl1b))
    (try (refine cut_ (p := w.heap.size + 1 + 1 < w1.heap.size) ?_ ?_; (focus (refine hs1 _ ?_; first | assumption | omega | (simp [go_sem]; done) | (simp [go_sem]; omega))); intro hl1c))
    go_wp2
    refine bodyPost_ret (v := badW 1) ?_ rfl (newWheel_bad (by (repeat (first | with_reducible exact Below.refl _ _ | with_reducible refine below_alloc ?_ _ | with_reducible refine below_drewN ?_ _ | with_reducible refine Below.drew ?_ | ((with_reducible refine below_set ?_ ?_ _); rotate_left; (focus (first | (simp; done) | (simp; omega) | omega))) | with_reducible refine below_call ?_ (by assumption)))))
    simp [results, Tryz.results6, go_sem, badW, hc1, hf1, hs1]
  · have hv' := hv
    simp only [hv] at cV
    have CV := Lib.hid cV
    cases hi : inB x 0 ((n : Int) - 1)
    · rw [rTurn_far hv' hi]
      clear cV hv hv'
      go_enter Tryz.func6, Tryz.ntmps6
      go_wp2_with fail
      go_at_call 19
      refine (CV.out _ (by exact Ints.below (H.out) (by (repeat (first | with_reducible exact Below.refl _ _ | with_reducible refine below_alloc ?_ _ | with_reducible refine below_drewN ?_ _ | with_reducible refine Below.drew ?_ | ((with_reducible refine below_set ?_ ?_ _); rotate_left; (focus (first | (simp; done) | (simp; omega) | omega))) | with_reducible refine below_call ?_ (by assumption))))) (by exact Below.size (B := w.heap.size) (w := w) (by (repeat (first | with_reducible exact Below.refl _ _ | with_reducible refine below_alloc ?_ _ | with_reducible refine below_drewN ?_ _ | with_reducible refine Below.drew ?_ | ((with_reducible refine below_set ?_ ?_ _); rotate_left; (focus (first | (simp; done) | (simp; omega) | omega))) | with_reducible refine below_call ?_ (by assumption)))))).mono ?_
      rintro e w1 ⟨rfl, hb1⟩
      obtain ⟨hc1, hf1, hs1⟩ := bcell hb1
      (try (refine cut_ (p := w.heap.size < w1.heap.size) ?_ ?_; (focus (refine hs1 _ ?_; first | assumption | omega | (simp [go_sem]; done) | (simp [go_sem]; omega))); intro hl1a))
      (try (refine cut_ (p := w.heap.size + 1 < w1.heap.size) ?_ ?_; (focus (refine hs1 _ ?_; first | assumption | omega | (simp [go_sem]; done) | (simp [go_sem]; omega))); intro hl1b))
      (try (refine cut_ (p := w.heap.size + 1 + 1 < w1.heap.size) ?_ ?_; (focus (refine hs1 _ ?_; first | assumption | omega | (simp [go_sem]; done) | (simp [go_sem]; omega))); intro hl1c))
      go_wp2_with fail
      go_at_call 20
      refine (isNotch_any _ _ _ _ _ hn).mono ?_
      rintro e w2 ⟨rfl, hb2⟩
      obtain ⟨hc2, hf2, hs2⟩ := bcell hb2
      (try (refine cut_ (p := w.heap.size < w2.heap.size) ?_ ?_; (focus (refine hs2 _ ?_; first | assumption | omega | (simp [go_sem]; done) | (simp [go_sem]; omega))); intro hl2a))
      (try (refine cut_ (p := w.heap.size + 1 < w2.heap.size) ?_ ?_; (focus (refine hs2 _ ?_; first | assumption | omega | (simp [go_sem]; done) | (simp [go_sem]; omega))); intro hl2b))
      (try (refine cut_ (p := w.heap.size + 1 + 1 < w2.heap.size) ?_ ?_; (focus (refine hs2 _ ?_; first | assumption | omega | (simp [go_sem]; done) | (simp [go_sem]; omega))); intro hl2c))
      have y1 : w.heap.size + 1 < w1.heap.size := by have := hb1.size; simp at this; omega
      have y2 : w.heap.size + 1 < w2.heap.size := lt_call hb2 y1
      have r2 : w2.cell? ⟨w.heap.size + 1, 0, none⟩ = some (.slice none 0 0) := cell_call hb2 y1 (cell_call hb1 (by simp; try omega) (by simp [go_sem]))
      have f2 : w2.frozen? ⟨w.heap.size + 1, 0, none⟩ = false := fro_call hb2 y1 (fro_call hb1 (by simp; try omega) (by simp [go_sem]))
      have B2 : Below w.heap.size w w2 := by (repeat (first | with_reducible exact Below.refl _ _ | with_reducible refine below_alloc ?_ _ | with_reducible refine below_drewN ?_ _ | with_reducible refine Below.drew ?_ | ((with_reducible refine below_set ?_ ?_ _); rotate_left; (focus (first | (simp; done) | (simp; omega) | omega))) | with_reducible refine below_call ?_ (by assumption)))
      clear hc1 hf1 hs1 hb1 hc2 hf2 hs2 hb2
      go_wp2
      refine bodyPost_ret (v := badW 2) ?_ rfl (newWheel_bad (by (repeat (first | with_reducible exact B2 | with_reducible refine below_alloc ?_ _ | with_reducible refine below_drewN ?_ _ | with_reducible refine Below.drew ?_ | ((with_reducible refine below_set ?_ ?_ _); rotate_left; (focus (first | (simp; done) | (simp; omega) | omega)))))))
      simp [results, Tryz.results6, go_sem, badW, *]
    · have hx := inB_yes hi
      obtain ⟨k, rfl⟩ := Int.eq_ofNat_of_zero_le hx.1
      rw [rTurn_ok hv' hi]
      have hk : k < n := by omega
      obtain ⟨b, off, rfl, _⟩ := H.out.2 (by omega)
      have cT := fun (W : World) (h : Ints W w.heap.size (some ⟨b, off, none⟩) n zs) (h2 : w.heap.size ≤ W.heap.size) => turned_any b off n c w.heap.size k zs W h h2 hk hc hn hc2
      generalize zs.drop k ++ zs.take k = G at *
      have CT := Lib.hid cT
      clear cV hv hv' cT
      go_enter Tryz.func6, Tryz.ntmps6
      go_wp2_with fail
      go_at_call 19
      refine (CV.out _ (by exact Ints.below (H.out) (by (repeat (first | with_reducible exact Below.refl _ _ | with_reducible refine below_alloc ?_ _ | with_reducible refine below_drewN ?_ _ | with_reducible refine Below.drew ?_ | ((with_reducible refine below_set ?_ ?_ _); rotate_left; (focus (first | (simp; done) | (simp; omega) | omega))) | with_reducible refine below_call ?_ (by assumption))))) (by exact Below.size (B := w.heap.size) (w := w) (by (repeat (first | with_reducible exact Below.refl _ _ | with_reducible refine below_alloc ?_ _ | with_reducible refine below_drewN ?_ _ | with_reducible refine Below.drew ?_ | ((with_reducible refine below_set ?_ ?_ _); rotate_left; (focus (first | (simp; done) | (simp; omega) | omega))) | with_reducible refine below_call ?_ (by assumption)))))).mono ?_
      rintro e w1 ⟨rfl, hb1⟩
      obtain ⟨hc1, hf1, hs1⟩ := bcell hb1
      (try (refine cut_ (p := w.heap.size < w1.heap.size) ?_ ?_; (focus (refine hs1 _ ?_; first | assumption | omega | (simp [go_sem]; done) | (simp [go_sem]; omega))); intro hl1a))
      (try (refine cut_ (p := w.heap.size + 1 < w1.heap.size) ?_ ?_; (focus (refine hs1 _ ?_; first | assumption | omega | (simp [go_sem]; done) | (simp [go_sem]; omega))); intro hl1b))
      (try (refine cut_ (p := w.heap.size + 1 + 1 < w1.heap.size) ?_ ?_; (focus (refine hs1 _ ?_; first | assumption | omega | (simp [go_sem]; done) | (simp [go_sem]; omega))); intro hl1c))
      go_wp2_with fail
      go_at_call 20
      refine (isNotch_any _ _ _ _ _ hn).mono ?_
      rintro e w2 ⟨rfl, hb2⟩
      obtain ⟨hc2, hf2, hs2⟩ := bcell hb2
      (try (refine cut_ (p := w.heap.size < w2.heap.size) ?_ ?_; (focus (refine hs2 _ ?_; first | assumption | omega | (simp [go_sem]; done) | (simp [go_sem]; omega))); intro hl2a))
      (try (refine cut_ (p := w.heap.size + 1 < w2.heap.size) ?_ ?_; (focus (refine hs2 _ ?_; first | assumption | omega | (simp [go_sem]; done) | (simp [go_sem]; omega))); intro hl2b))
      (try (refine cut_ (p := w.heap.size + 1 + 1 < w2.heap.size) ?_ ?_; (focus (refine hs2 _ ?_; first | assumption | omega | (simp [go_sem]; done) | (simp [go_sem]; omega))); intro hl2c))
      have B2 : Below w.heap.size w w2 := by (repeat (first | with_reducible exact Below.refl _ _ | with_reducible refine below_alloc ?_ _ | with_reducible refine below_drewN ?_ _ | with_reducible refine Below.drew ?_ | ((with_reducible refine below_set ?_ ?_ _); rotate_left; (focus (first | (simp; done) | (simp; omega) | omega))) | with_reducible refine below_call ?_ (by assumption)))
      have y1 : w.heap.size + 1 < w1.heap.size := by have := hb1.size; simp at this; omega
      have y2 : w.heap.size + 1 < w2.heap.size := lt_call hb2 y1
      have r2 : w2.cell? ⟨w.heap.size + 1, 0, none⟩ = some (.slice none 0 0) := cell_call hb2 y1 (cell_call hb1 (by simp; try omega) (by simp [go_sem]))
      have f2 : w2.frozen? ⟨w.heap.size + 1, 0, none⟩ = false := fro_call hb2 y1 (fro_call hb1 (by simp; try omega) (by simp [go_sem]))
      go_wp2_with fail
      go_at_call 21
      refine (CT.out _ (Ints.below H.out B2) B2.size).mono ?_
      rintro e w3 ⟨L, c3, rfl, ho3, hb3⟩
      have r3 : w3.cell? ⟨w.heap.size + 1, 0, none⟩ = some (.slice none 0 0) := cell_call hb3 y2 r2
      have f3 : w3.frozen? ⟨w.heap.size + 1, 0, none⟩ = false := fro_call hb3 y2 f2
      have B3 : Below w.heap.size w w3 := B2.trans (hb3.mono B2.size)
      have HO3 := Lib.hid ho3
      clear ho3 hb3 hc1 hf1 hs1 hb1 hc2 hf2 hs2 hb2
      go_wp2
      refine bodyPost_ret (v := .tuple #[.agg #[.slice L n c3], .int .i64 0]) ?_ rfl ⟨L, c3, rfl, ?_, ?_⟩
      · simp [results, Tryz.results6, go_sem, *]
      · refine Own.low (b0 := w.heap.size) (base := w2.heap.size) ?_ (by omega)
        have hfar : Own _ _ _ _ _ _ := HO3.out
        repeat (first | with_reducible exact hfar | ((with_reducible refine Own.far ?_ ?_ _); rotate_left; (focus (first | (simp; done) | (simp; omega)))) | with_reducible refine Own.drewN ?_ _ | ((with_reducible refine Own.alloc ?_ _)))
      · (repeat (first | with_reducible exact B3 | with_reducible refine below_alloc ?_ _ | with_reducible refine below_drewN ?_ _ | with_reducible refine Below.drew ?_ | ((with_reducible refine below_set ?_ ?_ _); rotate_left; (focus (first | (simp; done) | (simp; omega) | omega)))))
set_option maxHeartbeats 2000000 in
theorem specTurnCountWheel_any (A : Option Addr) (n c B : Nat) (zs : List Int) (x : Int) (w : World) (h : Ints w B A n zs) (hB : B ≤ w.heap.size) (hn : n ≤ 1048576) :
    Calls Tryz.prog 7 #[.agg #[.slice A n c], .int .i64 x] w (NewWheelC w (rTurn zs n x)) := by
  have hl := h.len
  have H := Lib.hid (h.more hB)
  clear h
  have cV := fun (W : World) (h : Ints W w.heap.size A n zs) (h2 : w.heap.size ≤ W.heap.size) => l20Code_any A n c w.heap.size zs x W h h2 hn
  cases hv : vWheel zs
  · rw [rTurn_bad hv]
    simp only [code_bad hv] at cV
    have CV := Lib.hid cV
    clear cV hv
    go_enter Tryz.func7, Tryz.ntmps7
    go_wp2_with fail
    go_at_call 22
    refine (CV.out _ (by exact Ints.below (H.out) (by (repeat (first | with_reducible exact Below.refl _ _ | with_reducible refine below_alloc ?_ _ | with_reducible refine below_drewN ?_ _ | with_reducible refine Below.drew ?_ | ((with_reducible refine below_set ?_ ?_ _); rotate_left; (focus (first | (simp; done) | (simp; omega) | omega))) | with_reducible refine below_call ?_ (by assumption))))) (by exact Below.size (B := w.heap.size) (w := w) (by (repeat (first | with_reducible exact Below.refl _ _ | with_reducible refine below_alloc ?_ _ | with_reducible refine below_drewN ?_ _ | with_reducible refine Below.drew ?_ | ((with_reducible refine below_set ?_ ?_ _); rotate_left; (focus (first | (simp; done) | (simp; omega) | omega))) | with_reducible refine below_call ?_ (by assumption)))))).mono ?_
    rintro e w1 ⟨rfl, hb1⟩
    obtain ⟨hc1, hf1, hs1⟩ := bcell hb1
    (try (refine cut_ (p := w.heap.size < w1.heap.size) ?_ ?_; (focus (refine hs1 _ ?_; first | assumption | omega | (simp [go_sem]; done) | (simp [go_sem]; omega))); intro hl1a))
    (try (refine cut_ (p := w.heap.size + 1 < w1.heap.size) ?_ ?_; (focus (refine hs1 _ ?_; first | assumption | omega | (simp [go_sem]; done) | (simp [go_sem]; omega))); intro hl1b))
    (try (refine cut_ (p := w.heap.size + 1 + 1 < w1.heap.size) ?_ ?_; (focus (refine hs1 _ ?_; first | assumption | omega | (simp [go_sem]; done) | (simp [go_sem]; omega))); intro hl1c))
    go_wp2
    refine bodyPost_ret (v := badW 1) ?_ rfl (newWheel_bad (by (repeat (first | with_reducible exact Below.refl _ _ | with_reducible refine below_alloc ?_ _ | with_reducible refine below_drewN ?_ _ | with_reducible refine Below.drew ?_ | ((with_reducible refine below_set ?_ ?_ _); rotate_left; (focus (first | (simp; done) | (simp; omega) | omega))) | with_reducible refine below_call ?_ (by assumption)))))
    simp [results, Tryz.results7, go_sem, badW, hc1, hf1, hs1]
  · have hv' := hv
    cases hi : inB x 0 ((n : Int) - 1)
    · rw [rTurn_far hv' hi]
      simp only [code_far hv hi] at cV
      have CV := Lib.hid cV
      clear cV hv hv'
      go_enter Tryz.func7, Tryz.ntmps7
      go_wp2_with fail
      go_at_call 22
      refine (CV.out _ (by exact Ints.below (H.out) (by (repeat (first | with_reducible exact Below.refl _ _ | with_reducible refine below_alloc ?_ _ | with_reducible refine below_drewN ?_ _ | with_reducible refine Below.drew ?_ | ((with_reducible refine below_set ?_ ?_ _); rotate_left; (focus (first | (simp; done) | (simp; omega) | omega))) | with_reducible refine below_call ?_ (by assumption))))) (by exact Below.size (B := w.heap.size) (w := w) (by (repeat (first | with_reducible exact Below.refl _ _ | with_reducible refine below_alloc ?_ _ | with_reducible refine below_drewN ?_ _ | with_reducible refine Below.drew ?_ | ((with_reducible refine below_set ?_ ?_ _); rotate_left; (focus (first | (simp; done) | (simp; omega) | omega))) | with_reducible refine below_call ?_ (by assumption)))))).mono ?_
      rintro e w1 ⟨rfl, hb1⟩
      obtain ⟨hc1, hf1, hs1⟩ := bcell hb1
      (try (refine cut_ (p := w.heap.size < w1.heap.size) ?_ ?_; (focus (refine hs1 _ ?_; first | assumption | omega | (simp [go_sem]; done) | (simp [go_sem]; omega))); intro hl1a))
      (try (refine cut_ (p := w.heap.size + 1 < w1.heap.size) ?_ ?_; (focus (refine hs1 _ ?_; first | assumption | omega | (simp [go_sem]; done) | (simp [go_sem]; omega))); intro hl1b))
      (try (refine cut_ (p := w.heap.size + 1 + 1 < w1.heap.size) ?_ ?_; (focus (refine hs1 _ ?_; first | assumption | omega | (simp [go_sem]; done) | (simp [go_sem]; omega))); intro hl1c))
      go_wp2
      refine bodyPost_ret (v := badW 2) ?_ rfl (newWheel_bad (by (repeat (first | with_reducible exact Below.refl _ _ | with_reducible refine below_alloc ?_ _ | with_reducible refine below_drewN ?_ _ | with_reducible refine Below.drew ?_ | ((with_reducible refine below_set ?_ ?_ _); rotate_left; (focus (first | (simp; done) | (simp; omega) | omega))) | with_reducible refine below_call ?_ (by assumption)))))
      simp [results, Tryz.results7, go_sem, badW, hc1, hf1, hs1]
    · have hx := inB_yes hi
      simp only [code_ok hv hi] at cV
      have CV := Lib.hid cV
      obtain ⟨k, rfl⟩ := Int.eq_ofNat_of_zero_le hx.1
      rw [rTurn_ok hv' hi]
      have hk : k < n := by omega
      have cT := fun (W : World) (h : Ints W w.heap.size A n zs) (h2 : w.heap.size ≤ W.heap.size) => l20Turn_any A n c w.heap.size k zs W h h2 hk hn
      generalize zs.drop k ++ zs.take k = G at *
      have CT := Lib.hid cT
      clear cV hv hv' cT
      go_enter Tryz.func7, Tryz.ntmps7
      go_wp2_with fail
      go_at_call 22
      refine (CV.out _ (by exact Ints.below (H.out) (by (repeat (first | with_reducible exact Below.refl _ _ | with_reducible refine below_alloc ?_ _ | with_reducible refine below_drewN ?_ _ | with_reducible refine Below.drew ?_ | ((with_reducible refine below_set ?_ ?_ _); rotate_left; (focus (first | (simp; done) | (simp; omega) | omega))) | with_reducible refine below_call ?_ (by assumption))))) (by exact Below.size (B := w.heap.size) (w := w) (by (repeat (first | with_reducible exact Below.refl _ _ | with_reducible refine below_alloc ?_ _ | with_reducible refine below_drewN ?_ _ | with_reducible refine Below.drew ?_ | ((with_reducible refine below_set ?_ ?_ _); rotate_left; (focus (first | (simp; done) | (simp; omega) | omega))) | with_reducible refine below_call ?_ (by assumption)))))).mono ?_
      rintro e w1 ⟨rfl, hb1⟩
      obtain ⟨hc1, hf1, hs1⟩ := bcell hb1
      (try (refine cut_ (p := w.heap.size < w1.heap.size) ?_ ?_; (focus (refine hs1 _ ?_; first | assumption | omega | (simp [go_sem]; done) | (simp [go_sem]; omega))); intro hl1a))
      (try (refine cut_ (p := w.heap.size + 1 < w1.heap.size) ?_ ?_; (focus (refine hs1 _ ?_; first | assumption | omega | (simp [go_sem]; done) | (simp [go_sem]; omega))); intro hl1b))
      (try (refine cut_ (p := w.heap.size + 1 + 1 < w1.heap.size) ?_ ?_; (focus (refine hs1 _ ?_; first | assumption | omega | (simp [go_sem]; done) | (simp [go_sem]; omega))); intro hl1c))
      have B2 : Below w.heap.size w w1 := by (repeat (first | with_reducible exact Below.refl _ _ | with_reducible refine below_alloc ?_ _ | with_reducible refine below_drewN ?_ _ | with_reducible refine Below.drew ?_ | ((with_reducible refine below_set ?_ ?_ _); rotate_left; (focus (first | (simp; done) | (simp; omega) | omega))) | with_reducible refine below_call ?_ (by assumption)))
      have r2 : w1.cell? ⟨w.heap.size + 1, 0, none⟩ = some (.slice none 0 0) := cell_call hb1 (by first | (simp; done) | (simp; omega)) (by first | (simp [go_sem]; done) | rfl)
      have f2 : w1.frozen? ⟨w.heap.size + 1, 0, none⟩ = false := fro_call hb1 (by first | (simp; done) | (simp; omega)) (by first | (simp [go_sem]; done) | rfl)
      have y2 : w.heap.size + 1 < w1.heap.size := by have := hb1.size; simp at this; omega
      go_wp2_with fail
      go_at_call 23
      refine (CT.out _ (Ints.below H.out B2) B2.size).mono ?_
      rintro e w3 ⟨L, c3, rfl, ho3, hb3⟩
      have r3 : w3.cell? ⟨w.heap.size + 1, 0, none⟩ = some (.slice none 0 0) := cell_call hb3 y2 r2
      have f3 : w3.frozen? ⟨w.heap.size + 1, 0, none⟩ = false := fro_call hb3 y2 f2
      have B3 : Below w.heap.size w w3 := B2.trans (hb3.mono B2.size)
      have HO3 := Lib.hid ho3
      clear ho3 hb3 hc1 hf1 hs1 hb1
      go_wp2
      refine bodyPost_ret (v := .tuple #[.agg #[.slice L n c3], .int .i64 0]) ?_ rfl ⟨L, c3, rfl, ?_, ?_⟩
      · simp [results, Tryz.results7, go_sem, *]
      · refine Own.low (b0 := w.heap.size) (base := w1.heap.size) ?_ (by omega)
        have hfar : Own _ _ _ _ _ _ := HO3.out
        repeat (first | with_reducible exact hfar | ((with_reducible refine Own.far ?_ ?_ _); rotate_left; (focus (first | (simp; done) | (simp; omega)))) | with_reducible refine Own.drewN ?_ _ | ((with_reducible refine Own.alloc ?_ _)))
      · (repeat (first | with_reducible exact B3 | with_reducible refine below_alloc ?_ _ | with_reducible refine below_drewN ?_ _ | with_reducible refine Below.drew ?_ | ((with_reducible refine below_set ?_ ?_ _); rotate_left; (focus (first | (simp; done) | (simp; omega) | omega)))))
end Go.Proofs.YtajcbppndkkbpaaGreatDoor
