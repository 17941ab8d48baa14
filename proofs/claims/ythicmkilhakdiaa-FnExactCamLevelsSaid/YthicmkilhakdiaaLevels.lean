/- Contracts of the levels of a cam, the program's (clone, sort, compact, clip) and the reference's (put one by one). No conditions but that a cam has at most 2^20 levels. -/
import Derived.Test.YthicmkilhakdiaaCamV
import Derived.Test.YthicmkilhakdiaaLevelsPlain
import Derived.Test.YthicmkilhakdiaaAppM
import Derived.Test.YthicmkilhakdiaaShelf
import Derived.BigQuiet
import Derived.Sort.OwnSortedInts
import Derived.Lib.OwnBridge
namespace Go.Proofs.Ythicmkilhakdiaa
open Go.RowKit
set_option linter.unusedVariables false
set_option linter.unusedSimpArgs false
/-- what is still to come of a number's putting -/
def putR (b : Bool) (l : List Int) (v : Int) : List Int := if b then l else putL l v
theorem drop_cons {zs : List Int} {k : Nat} {x : Int} (hk : k < zs.length) (hx : zs.getD k 0 = x) : zs.drop k = x :: zs.drop (k + 1) := by
  rw [List.drop_eq_getElem_cons hk, ← hx, getD_of hk]
set_option maxHeartbeats 4000000 in
theorem l00Put_any (A : Option Addr) (n c B : Nat) (zs : List Int) (v : Int) (w : World) (h : Ints w B A n zs) (hB : B ≤ w.heap.size) (hn : n ≤ 1048576) :
    Calls Try.prog 11 #[.slice A n c, .int .i64 v] w (NewInts w (putL zs v)) := by
  have HL := Lib.hid h.len
  have H := Lib.hid (h.more hB)
  clear h hB
  go_enter Try.func11, Try.ntmps11
  go_wp2
  go_loopw [5, 6, 7] (fun l d t wr => ∃ (k m c' : Nat) (b : Bool) (L : Option Addr) (ys : List Int), t = .int .i64 k ∧ k ≤ n ∧ d = .bool b ∧ l = .slice L m c' ∧ m ≤ 2 * k + 1 ∧ Hid (ys ++ putR b (zs.drop k) v = putL zs v) ∧ Hid (Own wr w.heap.size L m c' ys) ∧ Below w.heap.size w wr) (fun _ _ t _ => n - (intOf t).toNat)
  case atStart => exact ⟨0, 0, 0, false, _, [], rfl, Nat.zero_le _, rfl, rfl, by omega, Lib.hid (by simp [putR]), Lib.hid (own_empty rfl (Nat.le_refl _)), (Below.refl _ _).alloc (Nat.le_refl _) _⟩
  case round =>
    obtain ⟨k, m, c', b, L, ys, rfl, hk, rfl, rfl, hm, he, ho, hB⟩ := hrel
    have zr := hB.size
    by_cases hlt : k < n
    · obtain ⟨bb, off, rfl, hbl, hc⟩ := H.out.at_ hlt
      have hcr : wr.cell? ⟨bb, off + k, none⟩ = some (.int .i64 (zs.getD k 0)) := (hB.cell (by simpa using hbl)).trans hc
      obtain ⟨x, hx⟩ : ∃ x, zs.getD k 0 = x := ⟨_, rfl⟩
      have HD := Lib.hid (drop_cons (zs := zs) (k := k) (by rw [HL.out]; exact hlt) hx)
      rw [hx] at hcr
      have HB := Lib.hid hB
      have i0 : (0 : Int) ≤ (k : Int) := Int.natCast_nonneg _
      have i1 : (k : Int) < (n : Int) := by omega
      clear hx hc hB
      cases b
      · by_cases h1 : v ≤ x
        · by_cases h2 : v < x
          · have hE := Lib.hid (show ((ys ++ [v]) ++ [x]) ++ putR true (zs.drop (k + 1)) v = putL zs v by
              rw [← he.out, HD.out]; simp [putR, putL, h1, h2])
            go_wp2_with (first | (at_builtin; refine wpList_app rfl _ _ rfl _ w.heap.size _ _ _ ys rfl (ho.out.alloc _) wr.heap.size rfl v (by simp [go_sem]) (by omega) (by simp; omega) ?_; intro L2 c2 w2 ho2 hb2; have HO2 := Lib.hid ho2; have HB2 := Lib.hid (((HB.out.alloc zr _).trans hb2)); have z2 := HB2.out.size; have hc2 : w2.cell? ⟨bb, off + k, none⟩ = some (.int .i64 x) := (hb2.cell (p := ⟨bb, off + k, none⟩) (by simpa using hbl)).trans ((World.cell?_alloc_lt wr _ _ (by simp; omega)).trans hcr); clear ho2 hb2 hcr) | (at_builtin; refine wpList_app rfl _ _ rfl _ w.heap.size _ _ _ (ys ++ [v]) rfl (HO2.out.alloc _) w2.heap.size rfl x (by simp [go_sem]) (by omega) (by simp; omega) ?_; intro L3 c3 w3 ho3 hb3; have HO3 := Lib.hid ho3; have HB3 := Lib.hid ((HB2.out.alloc HB2.out.size _).trans hb3); clear ho3 hb3) | fail)
            go_roundw
            case rel => exact ⟨k + 1, m + 1 + 1, c3, true, L3, _, by go_num, by omega, rfl, rfl, by omega, hE, HO3, HB3.out⟩
            case measure => simp [intOf]; omega
          · have hE := Lib.hid (show (ys ++ [x]) ++ putR true (zs.drop (k + 1)) v = putL zs v by
              rw [← he.out, HD.out]; simp [putR, putL, h1, h2])
            go_wp2_with (first | (at_builtin; refine wpList_app rfl _ _ rfl _ w.heap.size _ _ _ ys rfl (ho.out.alloc _) wr.heap.size rfl x (by simp [go_sem]) (by omega) (by simp; omega) ?_; intro L2 c2 w2 ho2 hb2; have HO2 := Lib.hid ho2; have HB2 := Lib.hid (((HB.out.alloc zr _).trans hb2)); clear ho2 hb2 hcr) | fail)
            go_roundw
            case rel => exact ⟨k + 1, m + 1, c2, true, L2, _, by go_num, by omega, rfl, rfl, by omega, hE, HO2, HB2.out⟩
            case measure => simp [intOf]; omega
        · have hE := Lib.hid (show (ys ++ [x]) ++ putR false (zs.drop (k + 1)) v = putL zs v by
            rw [← he.out, HD.out]; simp [putR, putL, h1])
          go_wp2_with (first | (at_builtin; refine wpList_app rfl _ _ rfl _ w.heap.size _ _ _ ys rfl (ho.out.alloc _) wr.heap.size rfl x (by simp [go_sem]) (by omega) (by simp; omega) ?_; intro L2 c2 w2 ho2 hb2; have HO2 := Lib.hid ho2; have HB2 := Lib.hid (((HB.out.alloc zr _).trans hb2)); clear ho2 hb2 hcr) | fail)
          go_roundw
          case rel => exact ⟨k + 1, m + 1, c2, false, L2, _, by go_num, by omega, rfl, rfl, by omega, hE, HO2, HB2.out⟩
          case measure => simp [intOf]; omega
      · have hE := Lib.hid (show (ys ++ [x]) ++ putR true (zs.drop (k + 1)) v = putL zs v by
          rw [← he.out, HD.out]; simp [putR])
        go_wp2_with (first | (at_builtin; refine wpList_app rfl _ _ rfl _ w.heap.size _ _ _ ys rfl (ho.out.alloc _) wr.heap.size rfl x (by simp [go_sem]) (by omega) (by simp; omega) ?_; intro L2 c2 w2 ho2 hb2; have HO2 := Lib.hid ho2; have HB2 := Lib.hid (((HB.out.alloc zr _).trans hb2)); clear ho2 hb2 hcr) | fail)
        go_roundw
        case rel => exact ⟨k + 1, m + 1, c2, true, L2, _, by go_num, by omega, rfl, rfl, by omega, hE, HO2, HB2.out⟩
        case measure => simp [intOf]; omega
    · have hd : zs.drop k = [] := List.drop_eq_nil_of_le (by rw [HL.out]; omega)
      have HB := Lib.hid hB
      rw [hd] at he
      clear hB hd
      cases b
      · have hE := Lib.hid (show ys ++ [v] = putL zs v by rw [← he.out]; simp [putR, putL])
        go_wp2_with (first | (at_builtin; refine wpList_app rfl _ _ rfl _ w.heap.size _ _ _ ys rfl (ho.out.alloc _) wr.heap.size rfl v (by simp [go_sem]) (by omega) (by simp; omega) ?_; intro L2 c2 w2 ho2 hb2; have HO2 := Lib.hid ho2; have HB2 := Lib.hid (((HB.out.alloc zr _).trans hb2)); clear ho2 hb2) | fail)
        go_ret
        exact ⟨L2, m + 1, c2, rfl, by rw [← hE.out]; exact HO2.out, HB2.out⟩
      · have hE := Lib.hid (show ys = putL zs v by rw [← he.out]; simp [putR])
        go_wp2
        go_ret
        exact ⟨L, m, c', rfl, by rw [← hE.out]; exact ho.out, HB.out⟩
def lvL (zs : List Int) : List Int := if vCam zs then zs.foldl putL [] else []
def lvC (zs : List Int) : Int := if vCam zs then 0 else 1
theorem lvL_len (zs : List Int) (h : zs.length ≤ 1048576) : (lvL zs).length ≤ 1048576 := by
  unfold lvL
  split
  · have := foldl_put_len zs []
    simp at this; omega
  · simp
set_option maxHeartbeats 4000000 in
theorem specCamLevels_any (A : Option Addr) (n c B : Nat) (zs : List Int) (w : World) (h : Ints w B A n zs) (hB : B ≤ w.heap.size) (hn : n ≤ 1048576) :
    Calls Try.prog 4 #[.slice A n c] w (NewIntsCode w (lvL zs) (lvC zs)) := by
  have HL := Lib.hid h.len
  have H := Lib.hid (h.more hB)
  have cV := fun (W : World) (h : Ints W w.heap.size A n zs) => l17Ok_any A n c w.heap.size zs W h hn
  clear h hB
  cases hv : vCam zs
  · rw [show lvL zs = [] by simp [lvL, hv], show lvC zs = 1 by simp [lvC, hv]]
    rw [hv] at cV
    have CV := Lib.hid cV
    clear cV
    go_enter Try.func4, Try.ntmps4
    go_wp2_with (go_at_call 10; refine (CV.out _ (by exact Ints.below (H.out) (by (repeat (first | with_reducible exact Below.refl _ _ | with_reducible refine below_alloc ?_ _ | with_reducible refine below_drewN ?_ _ | with_reducible refine Below.drew ?_ | ((with_reducible refine below_set ?_ ?_ _); rotate_left; (focus (first | (simp; done) | (simp; omega) | omega))) | with_reducible refine below_call ?_ (by assumption)))))).mono ?_; rintro e w' ⟨rfl, rfl⟩)
    go_ret2
    exact ⟨none, 0, 0, rfl, Own.nil_, by (repeat (first | with_reducible exact Below.refl _ _ | with_reducible refine below_alloc ?_ _ | with_reducible refine below_drewN ?_ _ | with_reducible refine Below.drew ?_ | ((with_reducible refine below_set ?_ ?_ _); rotate_left; (focus (first | (simp; done) | (simp; omega) | omega))) | with_reducible refine below_call ?_ (by assumption)))⟩
  · rw [show lvL zs = zs.foldl putL [] by simp [lvL, hv], show lvC zs = 0 by simp [lvC, hv]]
    have hn2 : n ≤ 260 := by have := (vCam_yes hv).2.2; rw [HL.out] at this; exact this
    rw [hv] at cV
    have CV := Lib.hid cV
    clear cV
    go_enter Try.func4, Try.ntmps4
    go_wp2_with (go_at_call 10; refine (CV.out _ (by exact Ints.below (H.out) (by (repeat (first | with_reducible exact Below.refl _ _ | with_reducible refine below_alloc ?_ _ | with_reducible refine below_drewN ?_ _ | with_reducible refine Below.drew ?_ | ((with_reducible refine below_set ?_ ?_ _); rotate_left; (focus (first | (simp; done) | (simp; omega) | omega))) | with_reducible refine below_call ?_ (by assumption)))))).mono ?_; rintro e w' ⟨rfl, rfl⟩)
    go_loopw [4, 5] (fun l t wr => ∃ (k m c' : Nat) (L : Option Addr), t = .int .i64 k ∧ k ≤ n ∧ l = .slice L m c' ∧ m ≤ k ∧ Hid (Own wr w.heap.size L m c' ((zs.take k).foldl putL [])) ∧ Below w.heap.size w wr) (fun _ t _ => n - (intOf t).toNat)
    case atStart => exact ⟨0, 0, 0, _, rfl, Nat.zero_le _, rfl, Nat.le_refl _, Lib.hid (own_empty rfl (Nat.le_refl _)), (Below.refl _ _).alloc (Nat.le_refl _) _⟩
    case round =>
      obtain ⟨k, m, c', L, rfl, hk, rfl, hm, ho, hB⟩ := hrel
      by_cases hlt : k < n
      · obtain ⟨bb, off, rfl, hbl, hc⟩ := H.out.at_ hlt
        have hcr : wr.cell? ⟨bb, off + k, none⟩ = some (.int .i64 (zs.getD k 0)) := (hB.cell (by simpa using hbl)).trans hc
        obtain ⟨x, hx⟩ : ∃ x, zs.getD k 0 = x := ⟨_, rfl⟩
        have hkl : k < zs.length := by rw [HL.out]; exact hlt
        have hT := Lib.hid (show (zs.take (k + 1)).foldl putL [] = putL ((zs.take k).foldl putL []) x by
          rw [List.take_succ_eq_append_getElem hkl, List.foldl_append, ← hx, getD_of hkl]; rfl)
        have hlen := Lib.hid (foldl_put_len (zs.take k) [])
        rw [hx] at hcr
        have HB := Lib.hid hB
        have zr := hB.size
        have i0 : (0 : Int) ≤ (k : Int) := Int.natCast_nonneg _
        have i1 : (k : Int) < (n : Int) := by omega
        clear hx hc hB
        go_wp2_with (first | (go_at_call 11; refine (l00Put_any L m c' wr.heap.size _ x _ (Own.ints ho.out (Nat.le_refl _)) (Nat.le_refl _) (by omega)).mono ?_; rintro e w2 ⟨L2, m2, c2, rfl, ho2, hb2⟩; have HO2 := Lib.hid ho2; have HB2 := Lib.hid (HB.out.trans (hb2.mono zr)); clear ho2 hb2) | fail)
        go_roundw
        case rel =>
          refine ⟨k + 1, m2, c2, L2, by go_num, by omega, rfl, ?_, Lib.hid (by rw [hT.out]; exact HO2.out.low zr), HB2.out⟩
          have h1 := HO2.out.len
          have h2 := foldl_put_len (zs.take (k + 1)) []
          rw [hT.out] at h2
          simp at h2; omega
        case measure => simp [intOf]; omega
      · have hd : zs.take k = zs := List.take_of_length_le (by rw [HL.out]; omega)
        rw [hd] at ho
        have HB := Lib.hid hB
        clear hB hd
        go_wp2
        go_ret2
        exact ⟨L, m, c', rfl, ho.out, HB.out⟩
/-- the library's sort of a row of the call's own -/
theorem sort_own (g n c base : Nat) (zs : List Int) (w : World) (h : Own w base (some ⟨g, 0, none⟩) n c zs) (hn : n ≤ 1048576) :
    Calls Try.prog 14 #[.slice (some ⟨g, 0, none⟩) n c] w fun e w' => e = .returned (.tuple #[]) ∧ Own w' base (some ⟨g, 0, none⟩) n c (zs.mergeSort fun x y => decide (x ≤ y)) ∧ Below base w w' := by
  obtain ⟨g', cap, e, h1, h2, h3, h4, h5, h6⟩ := Lib.holds_of_ownsRow (enc := Value.int .i64) h (by simp)
  injection e with e1 e2 e3
  injection e1 with e1
  injection e1 with e1
  subst e1; subst e3
  subst h5
  refine (Try.slices_Sort_int g 0 c zs w h6 h2 (by omega)).mono ?_
  rintro e w' ⟨he, k, os, rfl⟩
  refine ⟨he, ?_, (Below.refl _ _).grown (grownBy_sortedI _) (by omega) (fun k hk => by cases hk; exact h1)⟩
  rcases h.2 with ⟨e0, _⟩ | ⟨g2, cap2, cur, e0, hb, hg, hn2, hm, hs, ht⟩
  · cases e0
  · injection e0 with e1 _ e3
    injection e1 with e1
    injection e1 with e1
    subst e1; subst e3
    have := ownsRow_sortedI (e := 2) (n := k) (os := os) (ss := zs) (ts := zs.mergeSort fun x y => decide (x ≤ y)) (List.length_mergeSort zs) hb hg hn2 hm hs
    exact this
theorem compact_len (zs : List Int) : (Lib.compact zs).length ≤ zs.length := Lib.compact_length_le zs
theorem compact_own (g n c base : Nat) (zs : List Int) (w : World) (h : Own w base (some ⟨g, 0, none⟩) n c zs) (hn : n ≤ 1048576) :
    Calls Try.prog 16 #[.slice (some ⟨g, 0, none⟩) n c] w fun e w' => e = .returned (.slice (some ⟨g, 0, none⟩) (Lib.compact zs).length c) ∧ Own w' base (some ⟨g, 0, none⟩) (Lib.compact zs).length c (Lib.compact zs) ∧ Below base w w' := by
  obtain ⟨g', cap, e, h1, h2, h3, h4, h5, h6⟩ := Lib.holds_of_ownsRow (enc := Value.int .i64) h (by simp)
  injection e with e1 e2 e3
  injection e1 with e1
  injection e1 with e1
  subst e1; subst e3
  subst h5
  have hl := compact_len zs
  refine (Try.slices_Compact_int g 0 c zs w h6 (by omega) h3).mono ?_
  rintro e w' ⟨he, q, rfl⟩
  refine ⟨he, ?_, Lib.below_putRow (Below.refl _ _) h1⟩
  have := Lib.ownsRow_putRow (q := q) (k := (Lib.compact zs).length) (ys := Lib.compact zs ++ List.replicate (zs.length - (Lib.compact zs).length) 0) h (by simp; omega) hl
  rw [List.take_left] at this
  exact this
set_option maxHeartbeats 1000000 in
theorem Clip_any (g n c : Nat) (w : World) (hn : n ≤ c) (hc : c ≤ 9223372036854775807) :
    Calls Try.prog 15 #[.slice (some ⟨g, 0, none⟩) n c] w fun e w' => e = .returned (.slice (some ⟨g, 0, none⟩) n n) ∧ w = w' := by
  go_enter Try.func15, Try.ntmps15
  go_wp2
  go_ret
  exact ⟨rfl, rfl⟩
/-- a call gives a new slice, clipped, that reads as zs, and a code -/
def NewCapCode (w : World) (zs : List Int) (code : Int) (e : Ending) (w' : World) : Prop := ∃ A n c c', e = .returned (.tuple #[.slice A n c', .int .i64 code]) ∧ Own w' w.heap.size A n c zs ∧ Below w.heap.size w w'
set_option maxHeartbeats 4000000 in
theorem CamLevels_any (A : Option Addr) (n c B : Nat) (zs : List Int) (w : World) (h : Ints w B A n zs) (hB : B ≤ w.heap.size) (hn : n ≤ 1048576) :
    Calls Try.prog 6 #[.slice A n c] w (NewCapCode w (lvL zs) (lvC zs)) := by
  have HL := Lib.hid h.len
  have H := Lib.hid (h.more hB)
  have cV := fun (W : World) (h : Ints W w.heap.size A n zs) => ValidCam_any A n c w.heap.size zs W h hn
  clear h hB
  cases hv : vCam zs
  · rw [show lvL zs = [] by simp [lvL, hv], show lvC zs = 1 by simp [lvC, hv]]
    rw [hv] at cV
    have CV := Lib.hid cV
    clear cV
    go_enter Try.func6, Try.ntmps6
    go_wp2_with (go_at_call 12; refine (CV.out _ (by exact Ints.below (H.out) (by (repeat (first | with_reducible exact Below.refl _ _ | with_reducible refine below_alloc ?_ _ | with_reducible refine below_drewN ?_ _ | with_reducible refine Below.drew ?_ | ((with_reducible refine below_set ?_ ?_ _); rotate_left; (focus (first | (simp; done) | (simp; omega) | omega))) | with_reducible refine below_call ?_ (by assumption)))))).mono ?_; rintro e w' ⟨rfl, rfl⟩)
    go_ret2
    exact ⟨none, 0, 0, 0, rfl, Own.nil_, by (repeat (first | with_reducible exact Below.refl _ _ | with_reducible refine below_alloc ?_ _ | with_reducible refine below_drewN ?_ _ | with_reducible refine Below.drew ?_ | ((with_reducible refine below_set ?_ ?_ _); rotate_left; (focus (first | (simp; done) | (simp; omega) | omega))) | with_reducible refine below_call ?_ (by assumption)))⟩
  · rw [show lvL zs = zs.foldl putL [] by simp [lvL, hv], show lvC zs = 0 by simp [lvC, hv], ← levels_eq zs]
    have hn1 : 1 ≤ n := by have := (vCam_yes hv).2.1; rw [HL.out] at this; exact this
    have hln := compact_len (zs.mergeSort fun x y => decide (x ≤ y))
    rw [List.length_mergeSort, HL.out] at hln
    rw [hv] at cV
    have CV := Lib.hid cV
    have HLN := Lib.hid hln
    clear cV hln
    go_enter Try.func6, Try.ntmps6
    go_wp2_with (first | (go_at_call 12; refine (CV.out _ (by exact Ints.below (H.out) (by (repeat (first | with_reducible exact Below.refl _ _ | with_reducible refine below_alloc ?_ _ | with_reducible refine below_drewN ?_ _ | with_reducible refine Below.drew ?_ | ((with_reducible refine below_set ?_ ?_ _); rotate_left; (focus (first | (simp; done) | (simp; omega) | omega))) | with_reducible refine below_call ?_ (by assumption)))))).mono ?_; rintro e w' ⟨rfl, rfl⟩) | fail)
    go_at_call 13
    refine (Clone_any A n c w.heap.size zs _ H.out (Nat.le_refl _) hn1 hn).mono ?_
    rintro e w1 ⟨A1, c1, rfl, ho1, hb1⟩
    rcases ho1.form with ⟨_, hx, _⟩ | ⟨g, rfl, hg, hgl⟩
    · omega
    have O1 := Lib.hid ho1
    have HB1 := Lib.hid hb1
    clear ho1 hb1
    go_wp2_with fail
    go_at_call 14
    refine (sort_own g n c1 w.heap.size zs _ O1.out hn).mono ?_
    rintro e w2 ⟨rfl, ho2, hb2⟩
    have O2 := Lib.hid ho2
    have HB2 := Lib.hid (HB1.out.trans hb2)
    clear ho2 hb2
    go_wp2_with fail
    go_at_call 16
    refine (compact_own g n c1 w.heap.size _ _ O2.out hn).mono ?_
    rintro e w3 ⟨rfl, ho3, hb3⟩
    have O3 := Lib.hid ho3
    have HB3 := Lib.hid (HB2.out.trans hb3)
    have hcap : (Lib.compact (zs.mergeSort fun x y => decide (x ≤ y))).length ≤ c1 ∧ c1 ≤ 9223372036854775807 := by
      rcases ho3.2 with ⟨e, h0⟩ | ⟨g, cap, cur, e, hb, hh, h1, h2, h3, h4⟩
      · cases e
      · injection e with e1 e2 e3
        subst e3
        exact ⟨h1, by unfold maxLen at h2; omega⟩
    clear ho3 hb3
    go_wp2_with (first | (go_at_call 15; refine (Clip_any g (Lib.compact (zs.mergeSort fun x y => decide (x ≤ y))).length c1 _ hcap.1 hcap.2).mono ?_; rintro e w' ⟨rfl, rfl⟩) | fail)
    go_ret2
    exact ⟨_, _, c1, _, rfl, O3.out, HB3.out⟩
end Go.Proofs.Ythicmkilhakdiaa
