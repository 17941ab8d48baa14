/- Contracts of the two functions SunRadii. No conditions but that a cam has at most 2^20 steps. -/
import Derived.Test.YtmmpbbhddhapmaaSunTime
import Derived.Test.YtmmpbbhddhapmaaApp
namespace Go.Proofs.Ytmmpbbhddhapmaa
open Go.RowKit
set_option linter.unusedVariables false
set_option linter.unusedSimpArgs false
def radI (z base scale : Int) : Int := base + near (z * scale) 1000
def radL (zs : List Int) (base scale : Int) : List Int := zs.map fun z => radI z base scale
theorem radL_len (zs : List Int) (base scale : Int) : (radL zs base scale).length = zs.length := by simp [radL]
theorem radL_take {zs : List Int} {base scale : Int} {k : Nat} (h : k < zs.length) : (radL zs base scale).take (k + 1) = (radL zs base scale).take k ++ [radI (zs.getD k 0) base scale] := by
  rw [getD_of h, List.take_succ_eq_append_getElem (by rw [radL_len]; exact h)]
  simp [radL]
def radOk (zs : List Int) (base scale : Int) : Bool := (radL zs base scale).all fun r => inB r 1 10000
theorem radOk_no {zs : List Int} {base scale : Int} {k : Nat} (hk : k < zs.length) (h : inB (radI (zs.getD k 0) base scale) 1 10000 = false) : radOk zs base scale = false := by
  unfold radOk
  rw [List.all_eq_false]
  refine ⟨radI (zs.getD k 0) base scale, ?_, by rw [h]; decide⟩
  rw [getD_of hk]
  exact List.mem_map.2 ⟨zs[k], List.getElem_mem hk, rfl⟩
theorem radOk_yes {zs : List Int} {base scale : Int} (h : ∀ j, j < zs.length → inB (radI (zs.getD j 0) base scale) 1 10000 = true) : radOk zs base scale = true := by
  unfold radOk
  rw [List.all_eq_true]
  intro x hx
  obtain ⟨z, hz, rfl⟩ := List.mem_map.1 hx
  obtain ⟨j, hj, rfl⟩ := List.mem_iff_getElem.1 hz
  have := h j hj
  rwa [getD_of hj] at this
/-- what SunRadii gives -/
def radR (zs : List Int) (base scale : Int) : List Int := if vSun zs && (inB base 1 10000 && inB scale 0 10000) && radOk zs base scale then radL zs base scale else []
def radC (zs : List Int) (base scale : Int) : Int := if vSun zs then if inB base 1 10000 && inB scale 0 10000 then if radOk zs base scale then 0 else 10 else 2 else 1
theorem near1000 {z : Int} (h1 : -12000000 ≤ z) (h2 : z ≤ 12000000) : -12001 ≤ near z 1000 ∧ near z 1000 ≤ 12001 := by unfold near; omega
set_option maxHeartbeats 4000000 in
theorem SunRadii_any (A : Option Addr) (n c B : Nat) (zs : List Int) (base scale : Int) (w : World) (h : Ints w B A n zs) (hB : B ≤ w.heap.size) (hn : n ≤ 1048576) :
    Calls Try.prog 25 #[.agg #[.slice A n c], .int .i64 base, .int .i64 scale] w (NewIntsCode w (radR zs base scale) (radC zs base scale)) := by
  have hl := h.len
  have HL := Lib.hid hl
  have H := Lib.hid (h.more hB)
  clear h hl
  cases hv : vSun zs
  · rw [show radR zs base scale = [] by simp [radR, hv], show radC zs base scale = 1 by simp [radC, hv]]
    go_enter Try.func25, Try.ntmps25
    go_wp2_with fail
    refine (ValidSunCam_any _ _ _ _ zs _ (by exact Ints.below (H.out) (by (repeat (first | with_reducible exact Below.refl _ _ | with_reducible refine below_alloc ?_ _ | with_reducible refine below_drewN ?_ _ | with_reducible refine Below.drew ?_ | ((with_reducible refine below_set ?_ ?_ _); rotate_left; (focus (first | (simp; done) | (simp; omega) | omega))) | with_reducible refine below_call ?_ (by assumption))))) (by exact Below.size (B := w.heap.size) (w := w) (by (repeat (first | with_reducible exact Below.refl _ _ | with_reducible refine below_alloc ?_ _ | with_reducible refine below_drewN ?_ _ | with_reducible refine Below.drew ?_ | ((with_reducible refine below_set ?_ ?_ _); rotate_left; (focus (first | (simp; done) | (simp; omega) | omega))) | with_reducible refine below_call ?_ (by assumption))))) hn).mono ?_
    rintro e w1 ⟨rfl, hb1⟩
    obtain ⟨hc1, hf1, hs1⟩ := bcell hb1
    (try (refine cut_ (p := w.heap.size < w1.heap.size) ?_ ?_; (focus (refine hs1 _ ?_; first | assumption | omega | (simp [go_sem]; done) | (simp [go_sem]; omega))); intro hl1a))
    (try (refine cut_ (p := w.heap.size + 1 < w1.heap.size) ?_ ?_; (focus (refine hs1 _ ?_; first | assumption | omega | (simp [go_sem]; done) | (simp [go_sem]; omega))); intro hl1b))
    (try (refine cut_ (p := w.heap.size + 1 + 1 < w1.heap.size) ?_ ?_; (focus (refine hs1 _ ?_; first | assumption | omega | (simp [go_sem]; done) | (simp [go_sem]; omega))); intro hl1c))
    go_wp2
    go_ret2
    exact ⟨none, 0, 0, rfl, Own.nil_, by (repeat (first | with_reducible exact Below.refl _ _ | with_reducible refine below_alloc ?_ _ | with_reducible refine below_drewN ?_ _ | with_reducible refine Below.drew ?_ | ((with_reducible refine below_set ?_ ?_ _); rotate_left; (focus (first | (simp; done) | (simp; omega) | omega))) | with_reducible refine below_call ?_ (by assumption)))⟩
  · cases h1 : inB base 1 10000
    · rw [show radR zs base scale = [] by simp [radR, hv, h1], show radC zs base scale = 2 by simp [radC, hv, h1]]
      go_enter Try.func25, Try.ntmps25
      go_wp2_with fail
      refine (ValidSunCam_any _ _ _ _ zs _ (by exact Ints.below (H.out) (by (repeat (first | with_reducible exact Below.refl _ _ | with_reducible refine below_alloc ?_ _ | with_reducible refine below_drewN ?_ _ | with_reducible refine Below.drew ?_ | ((with_reducible refine below_set ?_ ?_ _); rotate_left; (focus (first | (simp; done) | (simp; omega) | omega))) | with_reducible refine below_call ?_ (by assumption))))) (by exact Below.size (B := w.heap.size) (w := w) (by (repeat (first | with_reducible exact Below.refl _ _ | with_reducible refine below_alloc ?_ _ | with_reducible refine below_drewN ?_ _ | with_reducible refine Below.drew ?_ | ((with_reducible refine below_set ?_ ?_ _); rotate_left; (focus (first | (simp; done) | (simp; omega) | omega))) | with_reducible refine below_call ?_ (by assumption))))) hn).mono ?_
      rintro e w1 ⟨rfl, hb1⟩
      obtain ⟨hc1, hf1, hs1⟩ := bcell hb1
      (try (refine cut_ (p := w.heap.size < w1.heap.size) ?_ ?_; (focus (refine hs1 _ ?_; first | assumption | omega | (simp [go_sem]; done) | (simp [go_sem]; omega))); intro hl1a))
      (try (refine cut_ (p := w.heap.size + 1 < w1.heap.size) ?_ ?_; (focus (refine hs1 _ ?_; first | assumption | omega | (simp [go_sem]; done) | (simp [go_sem]; omega))); intro hl1b))
      (try (refine cut_ (p := w.heap.size + 1 + 1 < w1.heap.size) ?_ ?_; (focus (refine hs1 _ ?_; first | assumption | omega | (simp [go_sem]; done) | (simp [go_sem]; omega))); intro hl1c))
      go_wp2_with (go_at_call 38; refine (within_any _ _ _ _).mono ?_; rintro e w' ⟨rfl, rfl⟩)
      go_ret2
      exact ⟨none, 0, 0, rfl, Own.nil_, by (repeat (first | with_reducible exact Below.refl _ _ | with_reducible refine below_alloc ?_ _ | with_reducible refine below_drewN ?_ _ | with_reducible refine Below.drew ?_ | ((with_reducible refine below_set ?_ ?_ _); rotate_left; (focus (first | (simp; done) | (simp; omega) | omega))) | with_reducible refine below_call ?_ (by assumption)))⟩
    · cases h2 : inB scale 0 10000
      · rw [show radR zs base scale = [] by simp [radR, hv, h1, h2], show radC zs base scale = 2 by simp [radC, hv, h1, h2]]
        go_enter Try.func25, Try.ntmps25
        go_wp2_with fail
        refine (ValidSunCam_any _ _ _ _ zs _ (by exact Ints.below (H.out) (by (repeat (first | with_reducible exact Below.refl _ _ | with_reducible refine below_alloc ?_ _ | with_reducible refine below_drewN ?_ _ | with_reducible refine Below.drew ?_ | ((with_reducible refine below_set ?_ ?_ _); rotate_left; (focus (first | (simp; done) | (simp; omega) | omega))) | with_reducible refine below_call ?_ (by assumption))))) (by exact Below.size (B := w.heap.size) (w := w) (by (repeat (first | with_reducible exact Below.refl _ _ | with_reducible refine below_alloc ?_ _ | with_reducible refine below_drewN ?_ _ | with_reducible refine Below.drew ?_ | ((with_reducible refine below_set ?_ ?_ _); rotate_left; (focus (first | (simp; done) | (simp; omega) | omega))) | with_reducible refine below_call ?_ (by assumption))))) hn).mono ?_
        rintro e w1 ⟨rfl, hb1⟩
        obtain ⟨hc1, hf1, hs1⟩ := bcell hb1
        (try (refine cut_ (p := w.heap.size < w1.heap.size) ?_ ?_; (focus (refine hs1 _ ?_; first | assumption | omega | (simp [go_sem]; done) | (simp [go_sem]; omega))); intro hl1a))
        (try (refine cut_ (p := w.heap.size + 1 < w1.heap.size) ?_ ?_; (focus (refine hs1 _ ?_; first | assumption | omega | (simp [go_sem]; done) | (simp [go_sem]; omega))); intro hl1b))
        (try (refine cut_ (p := w.heap.size + 1 + 1 < w1.heap.size) ?_ ?_; (focus (refine hs1 _ ?_; first | assumption | omega | (simp [go_sem]; done) | (simp [go_sem]; omega))); intro hl1c))
        go_wp2_with (go_at_call 38; refine (within_any _ _ _ _).mono ?_; rintro e w' ⟨rfl, rfl⟩)
        go_ret2
        exact ⟨none, 0, 0, rfl, Own.nil_, by (repeat (first | with_reducible exact Below.refl _ _ | with_reducible refine below_alloc ?_ _ | with_reducible refine below_drewN ?_ _ | with_reducible refine Below.drew ?_ | ((with_reducible refine below_set ?_ ?_ _); rotate_left; (focus (first | (simp; done) | (simp; omega) | omega))) | with_reducible refine below_call ?_ (by assumption)))⟩
      · obtain ⟨R, hR⟩ : ∃ R, radR zs base scale = R := ⟨_, rfl⟩
        obtain ⟨C, hC⟩ : ∃ C, radC zs base scale = C := ⟨_, rfl⟩
        have hR1 := fun (h : radOk zs base scale = true) => (show R = radL zs base scale by rw [← hR]; simp [radR, hv, h1, h2, h])
        have hR0 := fun (h : radOk zs base scale = false) => (show R = [] by rw [← hR]; simp [radR, h])
        have hC1 := fun (h : radOk zs base scale = true) => (show C = 0 by rw [← hC]; simp [radC, hv, h1, h2, h])
        have hC0 := fun (h : radOk zs base scale = false) => (show C = 10 by rw [← hC]; simp [radC, hv, h1, h2, h])
        rw [hR, hC]
        have HR1 := Lib.hid hR1
        have HR0 := Lib.hid hR0
        have HC1 := Lib.hid hC1
        have HC0 := Lib.hid hC0
        have HV := Lib.hid (vSun_yes hv)
        have x1 := inB_yes h1
        have x2 := inB_yes h2
        clear hR hC hR1 hR0 hC1 hC0
        go_enter Try.func25, Try.ntmps25
        go_wp2_with fail
        refine (ValidSunCam_any _ _ _ _ zs _ (by exact Ints.below (H.out) (by (repeat (first | with_reducible exact Below.refl _ _ | with_reducible refine below_alloc ?_ _ | with_reducible refine below_drewN ?_ _ | with_reducible refine Below.drew ?_ | ((with_reducible refine below_set ?_ ?_ _); rotate_left; (focus (first | (simp; done) | (simp; omega) | omega))) | with_reducible refine below_call ?_ (by assumption))))) (by exact Below.size (B := w.heap.size) (w := w) (by (repeat (first | with_reducible exact Below.refl _ _ | with_reducible refine below_alloc ?_ _ | with_reducible refine below_drewN ?_ _ | with_reducible refine Below.drew ?_ | ((with_reducible refine below_set ?_ ?_ _); rotate_left; (focus (first | (simp; done) | (simp; omega) | omega))) | with_reducible refine below_call ?_ (by assumption))))) hn).mono ?_
        rintro e w1 ⟨rfl, hb1⟩
        obtain ⟨hc1, hf1, hs1⟩ := bcell hb1
        (try (refine cut_ (p := w.heap.size < w1.heap.size) ?_ ?_; (focus (refine hs1 _ ?_; first | assumption | omega | (simp [go_sem]; done) | (simp [go_sem]; omega))); intro hl1a))
        (try (refine cut_ (p := w.heap.size + 1 < w1.heap.size) ?_ ?_; (focus (refine hs1 _ ?_; first | assumption | omega | (simp [go_sem]; done) | (simp [go_sem]; omega))); intro hl1b))
        (try (refine cut_ (p := w.heap.size + 1 + 1 < w1.heap.size) ?_ ?_; (focus (refine hs1 _ ?_; first | assumption | omega | (simp [go_sem]; done) | (simp [go_sem]; omega))); intro hl1c))
        rw [hv]
        go_wp2_with (go_at_call 38; refine (within_any _ _ _ _).mono ?_; rintro e w' ⟨rfl, rfl⟩)
        go_loopw [8, 10, 11, 26] (fun l s r t wr => ∃ (k c' : Nat) (L : Option Addr), t = .int .i64 k ∧ k ≤ n ∧ l = .slice L k c' ∧ Hid (Own wr (w.heap.size + 1) L k c' ((radL zs base scale).take k)) ∧ Hid (∀ j, j < k → inB (radI (zs.getD j 0) base scale) 1 10000 = true) ∧ Below (w.heap.size + 1) (w.alloc (.cells #[.slice A n c] 27)) wr) (fun _ _ _ t _ => n - (intOf t).toNat)
        case atStart => exact ⟨0, 0, _, rfl, Nat.zero_le _, rfl, Lib.hid Own.nil_, Lib.hid (fun j hj => absurd hj (by omega)), by simpa using hb1⟩
        case round =>
          obtain ⟨k, c', L, rfl, hk, rfl, ho, hj, hB⟩ := hrel
          clear hc1 hf1 hs1 hb1
          have hsz : w.heap.size + 1 ≤ wr.heap.size := by have := hB.size; simpa using this
          have hlt0 : w.heap.size < wr.heap.size := by omega
          have hbx : wr.cell? ⟨w.heap.size, 0, none⟩ = some (.slice A n c) := by rw [hB.cell (p := ⟨w.heap.size, 0, none⟩) (by simp)]; simp
          by_cases hlt : k < n
          · have HB := Lib.hid hB
            clear hB
            obtain ⟨b, off, rfl, hbl, hc⟩ := H.out.at_ hlt
            have hxb := HV.out.1 k (by rw [HL.out]; exact hlt)
            have ht := radL_take (base := base) (scale := scale) (zs := zs) (k := k) (by rw [HL.out]; exact hlt)
            have hno := fun h => radOk_no (base := base) (scale := scale) (zs := zs) (k := k) (by rw [HL.out]; exact hlt) h
            have hnx := hj.out
            obtain ⟨x, hx⟩ : ∃ x, zs.getD k 0 = x := ⟨_, rfl⟩
            rw [hx] at hc hxb ht hno
            have HX := Lib.hid hx
            have hm := mul_bd (a := x) (b := scale) (A := 1200) (B := 10000) hxb.1 hxb.2 x2.1 x2.2
            have hnr := near1000 (z := x * scale) (by omega) (by omega)
            have hcr : wr.cell? ⟨b, off + k, none⟩ = some (.int .i64 x) := by
              rw [HB.out.cell (p := ⟨b, off + k, none⟩) (by simp; omega)]
              exact (World.cell?_alloc_lt w _ _ (by simpa using hbl)).trans hc
            have er : radI x base scale = base + near (x * scale) 1000 := rfl
            rw [er] at ht hno
            have HT := Lib.hid ht
            have HNO := Lib.hid hno
            have HJ := Lib.hid hnx
            have HER := Lib.hid er
            clear hx hc ht hno hnx er
            cases hir : inB (base + near (x * scale) 1000) 1 10000
            · go_wp2_with (first | (go_at_call 38; refine (within_any _ _ _ _).mono ?_; rintro e w' ⟨rfl, rfl⟩) | (go_at_call 49; refine (nearestDiv_any _ _ _ (by omega) (by omega) (by omega) (by omega)).mono ?_; rintro e w' ⟨rfl, rfl⟩))
              go_ret2
              refine ⟨none, 0, 0, ?_, ?_, ?_⟩
              · rw [HC0.out (HNO.out hir)]; rfl
              · rw [HR0.out (HNO.out hir)]; exact Own.nil_
              · exact ((Below.refl _ _).alloc (Nat.le_refl _) _).trans (HB.out.mono (by omega))
            · go_wp2_with (first | (go_at_call 38; refine (within_any _ _ _ _).mono ?_; rintro e w' ⟨rfl, rfl⟩) | (go_at_call 49; refine (nearestDiv_any _ _ _ (by omega) (by omega) (by omega) (by omega)).mono ?_; rintro e w' ⟨rfl, rfl⟩) | (at_builtin; refine wpList_app rfl _ _ rfl _ (w.heap.size + 1) _ _ _ ((radL zs base scale).take k) rfl (ho.out.alloc _) wr.heap.size rfl (base + near (x * scale) 1000) (by simp [go_sem]) (by omega) (by simp; omega) ?_; intro L2 c2 w2 ho2 hb2; have HO2 := Lib.hid ho2; clear ho2))
              go_roundw
              case rel =>
                refine ⟨k + 1, c2, L2, by go_num, by omega, rfl, ?_, Lib.hid (fun j hj2 => ?_), (HB.out.alloc hsz _).trans hb2⟩
                · rw [HT.out]; exact HO2
                · by_cases e : j = k
                  · subst e; rw [HX.out, HER.out]; exact hir
                  · exact HJ.out j (by omega)
              case measure => simp [intOf]; omega
          · have HE := Lib.hid (show k = n by omega)
            have HB := Lib.hid hB
            have hok := radOk_yes (zs := zs) (base := base) (scale := scale) (fun j hj2 => hj.out j (by rw [HL.out] at hj2; omega))
            have HOK := Lib.hid hok
            clear hB hok
            go_wp2
            go_ret2
            refine ⟨L, k, c', ?_, ?_, ?_⟩
            · rw [HC1.out HOK.out]; rfl
            · have := ho.out.low (b0 := w.heap.size) (by omega)
              rw [List.take_of_length_le (by rw [radL_len, HL.out, HE.out]; exact Nat.le_refl _)] at this
              rw [HR1.out HOK.out]; exact this
            · exact ((Below.refl _ _).alloc (Nat.le_refl _) _).trans (HB.out.mono (by omega))
set_option maxHeartbeats 4000000 in
theorem specSunRadii_any (A : Option Addr) (n c B : Nat) (zs : List Int) (base scale : Int) (w : World) (h : Ints w B A n zs) (hB : B ≤ w.heap.size) (hn : n ≤ 1048576) :
    Calls Try.prog 24 #[.agg #[.slice A n c], .int .i64 base, .int .i64 scale] w (NewIntsCode w (radR zs base scale) (radC zs base scale)) := by
  have hl := h.len
  have HL := Lib.hid hl
  have H := Lib.hid (h.more hB)
  clear h hl
  cases hv : vSun zs
  · rw [show radR zs base scale = [] by simp [radR, hv], show radC zs base scale = 1 by simp [radC, hv]]
    go_enter Try.func24, Try.ntmps24
    go_wp2_with fail
    refine (l19Cam_any _ _ _ _ zs _ (by exact Ints.below (H.out) (by (repeat (first | with_reducible exact Below.refl _ _ | with_reducible refine below_alloc ?_ _ | with_reducible refine below_drewN ?_ _ | with_reducible refine Below.drew ?_ | ((with_reducible refine below_set ?_ ?_ _); rotate_left; (focus (first | (simp; done) | (simp; omega) | omega))) | with_reducible refine below_call ?_ (by assumption))))) (by exact Below.size (B := w.heap.size) (w := w) (by (repeat (first | with_reducible exact Below.refl _ _ | with_reducible refine below_alloc ?_ _ | with_reducible refine below_drewN ?_ _ | with_reducible refine Below.drew ?_ | ((with_reducible refine below_set ?_ ?_ _); rotate_left; (focus (first | (simp; done) | (simp; omega) | omega))) | with_reducible refine below_call ?_ (by assumption))))) hn).mono ?_
    rintro e w1 ⟨rfl, hb1⟩
    obtain ⟨hc1, hf1, hs1⟩ := bcell hb1
    (try (refine cut_ (p := w.heap.size < w1.heap.size) ?_ ?_; (focus (refine hs1 _ ?_; first | assumption | omega | (simp [go_sem]; done) | (simp [go_sem]; omega))); intro hl1a))
    (try (refine cut_ (p := w.heap.size + 1 < w1.heap.size) ?_ ?_; (focus (refine hs1 _ ?_; first | assumption | omega | (simp [go_sem]; done) | (simp [go_sem]; omega))); intro hl1b))
    (try (refine cut_ (p := w.heap.size + 1 + 1 < w1.heap.size) ?_ ?_; (focus (refine hs1 _ ?_; first | assumption | omega | (simp [go_sem]; done) | (simp [go_sem]; omega))); intro hl1c))
    go_wp2
    go_ret2
    exact ⟨none, 0, 0, rfl, Own.nil_, by (repeat (first | with_reducible exact Below.refl _ _ | with_reducible refine below_alloc ?_ _ | with_reducible refine below_drewN ?_ _ | with_reducible refine Below.drew ?_ | ((with_reducible refine below_set ?_ ?_ _); rotate_left; (focus (first | (simp; done) | (simp; omega) | omega))) | with_reducible refine below_call ?_ (by assumption)))⟩
  · cases h1 : inB base 1 10000
    · rw [show radR zs base scale = [] by simp [radR, hv, h1], show radC zs base scale = 2 by simp [radC, hv, h1]]
      go_enter Try.func24, Try.ntmps24
      go_wp2_with fail
      refine (l19Cam_any _ _ _ _ zs _ (by exact Ints.below (H.out) (by (repeat (first | with_reducible exact Below.refl _ _ | with_reducible refine below_alloc ?_ _ | with_reducible refine below_drewN ?_ _ | with_reducible refine Below.drew ?_ | ((with_reducible refine below_set ?_ ?_ _); rotate_left; (focus (first | (simp; done) | (simp; omega) | omega))) | with_reducible refine below_call ?_ (by assumption))))) (by exact Below.size (B := w.heap.size) (w := w) (by (repeat (first | with_reducible exact Below.refl _ _ | with_reducible refine below_alloc ?_ _ | with_reducible refine below_drewN ?_ _ | with_reducible refine Below.drew ?_ | ((with_reducible refine below_set ?_ ?_ _); rotate_left; (focus (first | (simp; done) | (simp; omega) | omega))) | with_reducible refine below_call ?_ (by assumption))))) hn).mono ?_
      rintro e w1 ⟨rfl, hb1⟩
      obtain ⟨hc1, hf1, hs1⟩ := bcell hb1
      (try (refine cut_ (p := w.heap.size < w1.heap.size) ?_ ?_; (focus (refine hs1 _ ?_; first | assumption | omega | (simp [go_sem]; done) | (simp [go_sem]; omega))); intro hl1a))
      (try (refine cut_ (p := w.heap.size + 1 < w1.heap.size) ?_ ?_; (focus (refine hs1 _ ?_; first | assumption | omega | (simp [go_sem]; done) | (simp [go_sem]; omega))); intro hl1b))
      (try (refine cut_ (p := w.heap.size + 1 + 1 < w1.heap.size) ?_ ?_; (focus (refine hs1 _ ?_; first | assumption | omega | (simp [go_sem]; done) | (simp [go_sem]; omega))); intro hl1c))
      go_wp2_with (go_at_call 47; refine (l00In_any _ _ _ _).mono ?_; rintro e w' ⟨rfl, rfl⟩)
      go_ret2
      exact ⟨none, 0, 0, rfl, Own.nil_, by (repeat (first | with_reducible exact Below.refl _ _ | with_reducible refine below_alloc ?_ _ | with_reducible refine below_drewN ?_ _ | with_reducible refine Below.drew ?_ | ((with_reducible refine below_set ?_ ?_ _); rotate_left; (focus (first | (simp; done) | (simp; omega) | omega))) | with_reducible refine below_call ?_ (by assumption)))⟩
    · cases h2 : inB scale 0 10000
      · rw [show radR zs base scale = [] by simp [radR, hv, h1, h2], show radC zs base scale = 2 by simp [radC, hv, h1, h2]]
        go_enter Try.func24, Try.ntmps24
        go_wp2_with fail
        refine (l19Cam_any _ _ _ _ zs _ (by exact Ints.below (H.out) (by (repeat (first | with_reducible exact Below.refl _ _ | with_reducible refine below_alloc ?_ _ | with_reducible refine below_drewN ?_ _ | with_reducible refine Below.drew ?_ | ((with_reducible refine below_set ?_ ?_ _); rotate_left; (focus (first | (simp; done) | (simp; omega) | omega))) | with_reducible refine below_call ?_ (by assumption))))) (by exact Below.size (B := w.heap.size) (w := w) (by (repeat (first | with_reducible exact Below.refl _ _ | with_reducible refine below_alloc ?_ _ | with_reducible refine below_drewN ?_ _ | with_reducible refine Below.drew ?_ | ((with_reducible refine below_set ?_ ?_ _); rotate_left; (focus (first | (simp; done) | (simp; omega) | omega))) | with_reducible refine below_call ?_ (by assumption))))) hn).mono ?_
        rintro e w1 ⟨rfl, hb1⟩
        obtain ⟨hc1, hf1, hs1⟩ := bcell hb1
        (try (refine cut_ (p := w.heap.size < w1.heap.size) ?_ ?_; (focus (refine hs1 _ ?_; first | assumption | omega | (simp [go_sem]; done) | (simp [go_sem]; omega))); intro hl1a))
        (try (refine cut_ (p := w.heap.size + 1 < w1.heap.size) ?_ ?_; (focus (refine hs1 _ ?_; first | assumption | omega | (simp [go_sem]; done) | (simp [go_sem]; omega))); intro hl1b))
        (try (refine cut_ (p := w.heap.size + 1 + 1 < w1.heap.size) ?_ ?_; (focus (refine hs1 _ ?_; first | assumption | omega | (simp [go_sem]; done) | (simp [go_sem]; omega))); intro hl1c))
        go_wp2_with (go_at_call 47; refine (l00In_any _ _ _ _).mono ?_; rintro e w' ⟨rfl, rfl⟩)
        go_ret2
        exact ⟨none, 0, 0, rfl, Own.nil_, by (repeat (first | with_reducible exact Below.refl _ _ | with_reducible refine below_alloc ?_ _ | with_reducible refine below_drewN ?_ _ | with_reducible refine Below.drew ?_ | ((with_reducible refine below_set ?_ ?_ _); rotate_left; (focus (first | (simp; done) | (simp; omega) | omega))) | with_reducible refine below_call ?_ (by assumption)))⟩
      · obtain ⟨R, hR⟩ : ∃ R, radR zs base scale = R := ⟨_, rfl⟩
        obtain ⟨C, hC⟩ : ∃ C, radC zs base scale = C := ⟨_, rfl⟩
        have hR1 := fun (h : radOk zs base scale = true) => (show R = radL zs base scale by rw [← hR]; simp [radR, hv, h1, h2, h])
        have hR0 := fun (h : radOk zs base scale = false) => (show R = [] by rw [← hR]; simp [radR, h])
        have hC1 := fun (h : radOk zs base scale = true) => (show C = 0 by rw [← hC]; simp [radC, hv, h1, h2, h])
        have hC0 := fun (h : radOk zs base scale = false) => (show C = 10 by rw [← hC]; simp [radC, hv, h1, h2, h])
        rw [hR, hC]
        have HR1 := Lib.hid hR1
        have HR0 := Lib.hid hR0
        have HC1 := Lib.hid hC1
        have HC0 := Lib.hid hC0
        have HV := Lib.hid (vSun_yes hv)
        have x1 := inB_yes h1
        have x2 := inB_yes h2
        clear hR hC hR1 hR0 hC1 hC0
        go_enter Try.func24, Try.ntmps24
        go_wp2_with fail
        refine (l19Cam_any _ _ _ _ zs _ (by exact Ints.below (H.out) (by (repeat (first | with_reducible exact Below.refl _ _ | with_reducible refine below_alloc ?_ _ | with_reducible refine below_drewN ?_ _ | with_reducible refine Below.drew ?_ | ((with_reducible refine below_set ?_ ?_ _); rotate_left; (focus (first | (simp; done) | (simp; omega) | omega))) | with_reducible refine below_call ?_ (by assumption))))) (by exact Below.size (B := w.heap.size) (w := w) (by (repeat (first | with_reducible exact Below.refl _ _ | with_reducible refine below_alloc ?_ _ | with_reducible refine below_drewN ?_ _ | with_reducible refine Below.drew ?_ | ((with_reducible refine below_set ?_ ?_ _); rotate_left; (focus (first | (simp; done) | (simp; omega) | omega))) | with_reducible refine below_call ?_ (by assumption))))) hn).mono ?_
        rintro e w1 ⟨rfl, hb1⟩
        obtain ⟨hc1, hf1, hs1⟩ := bcell hb1
        (try (refine cut_ (p := w.heap.size < w1.heap.size) ?_ ?_; (focus (refine hs1 _ ?_; first | assumption | omega | (simp [go_sem]; done) | (simp [go_sem]; omega))); intro hl1a))
        (try (refine cut_ (p := w.heap.size + 1 < w1.heap.size) ?_ ?_; (focus (refine hs1 _ ?_; first | assumption | omega | (simp [go_sem]; done) | (simp [go_sem]; omega))); intro hl1b))
        (try (refine cut_ (p := w.heap.size + 1 + 1 < w1.heap.size) ?_ ?_; (focus (refine hs1 _ ?_; first | assumption | omega | (simp [go_sem]; done) | (simp [go_sem]; omega))); intro hl1c))
        rw [hv]
        go_wp2_with (go_at_call 47; refine (l00In_any _ _ _ _).mono ?_; rintro e w' ⟨rfl, rfl⟩)
        go_loopw [8, 9, 10] (fun l t r wr => ∃ (k c' : Nat) (L : Option Addr), t = .int .i64 k ∧ k ≤ n ∧ l = .slice L k c' ∧ Hid (Own wr (w.heap.size + 1) L k c' ((radL zs base scale).take k)) ∧ Hid (∀ j, j < k → inB (radI (zs.getD j 0) base scale) 1 10000 = true) ∧ Below (w.heap.size + 1) (w.alloc (.cells #[.slice A n c] 27)) wr) (fun _ t _ _ => n - (intOf t).toNat)
        case atStart => exact ⟨0, 0, _, rfl, Nat.zero_le _, rfl, Lib.hid (own_empty rfl (by have := hb1.size; simpa using this)), Lib.hid (fun j hj => absurd hj (by omega)), (by simpa using hb1 : Below (w.heap.size + 1) _ w1).alloc (by have := hb1.size; simpa using this) _⟩
        case round =>
          obtain ⟨k, c', L, rfl, hk, rfl, ho, hj, hB⟩ := hrel
          clear hc1 hf1 hs1 hb1
          have hsz : w.heap.size + 1 ≤ wr.heap.size := by have := hB.size; simpa using this
          have hlt0 : w.heap.size < wr.heap.size := by omega
          have hbx : wr.cell? ⟨w.heap.size, 0, none⟩ = some (.slice A n c) := by rw [hB.cell (p := ⟨w.heap.size, 0, none⟩) (by simp)]; simp
          by_cases hlt : k < n
          · have HB := Lib.hid hB
            clear hB
            obtain ⟨b, off, rfl, hbl, hc⟩ := H.out.at_ hlt
            have hxb := HV.out.1 k (by rw [HL.out]; exact hlt)
            have ht := radL_take (base := base) (scale := scale) (zs := zs) (k := k) (by rw [HL.out]; exact hlt)
            have hno := fun h => radOk_no (base := base) (scale := scale) (zs := zs) (k := k) (by rw [HL.out]; exact hlt) h
            have hnx := hj.out
            obtain ⟨x, hx⟩ : ∃ x, zs.getD k 0 = x := ⟨_, rfl⟩
            rw [hx] at hc hxb ht hno
            have HX := Lib.hid hx
            have hm := mul_bd (a := x) (b := scale) (A := 1200) (B := 10000) hxb.1 hxb.2 x2.1 x2.2
            have hnr := near1000 (z := x * scale) (by omega) (by omega)
            have hcr : wr.cell? ⟨b, off + k, none⟩ = some (.int .i64 x) := by
              rw [HB.out.cell (p := ⟨b, off + k, none⟩) (by simp; omega)]
              exact (World.cell?_alloc_lt w _ _ (by simpa using hbl)).trans hc
            have er : radI x base scale = base + near (x * scale) 1000 := rfl
            rw [er] at ht hno
            have HT := Lib.hid ht
            have HNO := Lib.hid hno
            have HJ := Lib.hid hnx
            have HER := Lib.hid er
            clear hx hc ht hno hnx er
            cases hir : inB (base + near (x * scale) 1000) 1 10000
            · go_wp2_with (first | (go_at_call 47; refine (l00In_any _ _ _ _).mono ?_; rintro e w' ⟨rfl, rfl⟩) | (go_at_call 48; refine (l02Near_any _ _ _ (by omega) (by omega) (by omega) (by omega)).mono ?_; rintro e w' ⟨rfl, rfl⟩))
              go_ret2
              refine ⟨none, 0, 0, ?_, ?_, ?_⟩
              · rw [HC0.out (HNO.out hir)]; rfl
              · rw [HR0.out (HNO.out hir)]; exact Own.nil_
              · exact ((Below.refl _ _).alloc (Nat.le_refl _) _).trans (HB.out.mono (by omega))
            · go_wp2_with (first | (go_at_call 47; refine (l00In_any _ _ _ _).mono ?_; rintro e w' ⟨rfl, rfl⟩) | (go_at_call 48; refine (l02Near_any _ _ _ (by omega) (by omega) (by omega) (by omega)).mono ?_; rintro e w' ⟨rfl, rfl⟩) | (at_builtin; refine wpList_app rfl _ _ rfl _ (w.heap.size + 1) _ _ _ ((radL zs base scale).take k) rfl (ho.out.alloc _) wr.heap.size rfl (base + near (x * scale) 1000) (by simp [go_sem]) (by omega) (by simp; omega) ?_; intro L2 c2 w2 ho2 hb2; have HO2 := Lib.hid ho2; clear ho2))
              go_roundw
              case rel =>
                refine ⟨k + 1, c2, L2, by go_num, by omega, rfl, ?_, Lib.hid (fun j hj2 => ?_), (HB.out.alloc hsz _).trans hb2⟩
                · rw [HT.out]; exact HO2
                · by_cases e : j = k
                  · subst e; rw [HX.out, HER.out]; exact hir
                  · exact HJ.out j (by omega)
              case measure => simp [intOf]; omega
          · have HE := Lib.hid (show k = n by omega)
            have HB := Lib.hid hB
            have hok := radOk_yes (zs := zs) (base := base) (scale := scale) (fun j hj2 => hj.out j (by rw [HL.out] at hj2; omega))
            have HOK := Lib.hid hok
            clear hB hok
            go_wp2
            go_ret2
            refine ⟨L, k, c', ?_, ?_, ?_⟩
            · rw [HC1.out HOK.out]; rfl
            · have := ho.out.low (b0 := w.heap.size) (by omega)
              rw [List.take_of_length_le (by rw [radL_len, HL.out, HE.out]; exact Nat.le_refl _)] at this
              rw [HR1.out HOK.out]; exact this
            · exact ((Below.refl _ _).alloc (Nat.le_refl _) _).trans (HB.out.mono (by omega))
end Go.Proofs.Ytmmpbbhddhapmaa
