/- Contracts of the levels of a cam, the program's (clone, sort, compact, clip) and the reference's (put one by one). No conditions but that a cam has at most 2^20 levels. -/
import Derived.Test.YtmbdedkelckedaaCore4
import Derived.Test.YtmbdedkelckedaaLevelsPlain
import Derived.Test.YtmbdedkelckedaaCore5
import Derived.Test.YtmbdedkelckedaaShelf
import Derived.BigQuiet
import Derived.Sort.OwnSortedInts
import Derived.Lib.OwnBridge
namespace Go.Proofs.Ytmbdedkelckedaa
open Go.RowKit
set_option linter.unusedVariables false
set_option linter.unusedSimpArgs false
def lvL (zs : List Int) : List Int := if vCam zs then zs.foldl putL [] else []
def lvC (zs : List Int) : Int := if vCam zs then 0 else 1
theorem lvL_len (zs : List Int) (h : zs.length ≤ 1048576) : (lvL zs).length ≤ 1048576 := by
  unfold lvL
  split
  · have := foldl_put_len zs []
    simp at this; omega
  · simp
/-- the library's sort of a row of the call's own -/
theorem sort_own (g n c base : Nat) (zs : List Int) (w : World) (h : Own w base (some ⟨g, 0, none⟩) n c zs) (hn : n ≤ 1048576) :
    Calls Try.prog 59 #[.slice (some ⟨g, 0, none⟩) n c] w fun e w' => e = .returned (.tuple #[]) ∧ Own w' base (some ⟨g, 0, none⟩) n c (zs.mergeSort fun x y => decide (x ≤ y)) ∧ Below base w w' := by
  obtain ⟨g', cap, e, h1, h2, h3, h4, h5, h6⟩ := Lib.holds_of_ownsRow (enc := Value.int .i64) h (by simp)
  injection e with e1 e2 e3
  injection e1 with e1
  injection e1 with e1
  subst e1; subst e3
  subst h5
  refine (Try.slices_Sort_int g 0 c zs w h6 h2 (by omega)).mono ?_
  rintro e w' ⟨he, k, os, rfl⟩
  refine ⟨he, ?_, (Below.refl _ _).grown (grownBy_sortedI _) (by omega) (fun k hk => by cases hk; exact h1)⟩
  rcases h.2 with ⟨e0, _⟩ | ⟨g2, cap2, cur, e0, hb, hg, hn2, hm, hs, ht⟩
  · cases e0
  · injection e0 with e1 _ e3
    injection e1 with e1
    injection e1 with e1
    subst e1; subst e3
    have := ownsRow_sortedI (e := 2) (n := k) (os := os) (ss := zs) (ts := zs.mergeSort fun x y => decide (x ≤ y)) (List.length_mergeSort zs) hb hg hn2 hm hs
    exact this
theorem compact_len (zs : List Int) : (Lib.compact zs).length ≤ zs.length := Lib.compact_length_le zs
theorem compact_own (g n c base : Nat) (zs : List Int) (w : World) (h : Own w base (some ⟨g, 0, none⟩) n c zs) (hn : n ≤ 1048576) :
    Calls Try.prog 61 #[.slice (some ⟨g, 0, none⟩) n c] w fun e w' => e = .returned (.slice (some ⟨g, 0, none⟩) (Lib.compact zs).length c) ∧ Own w' base (some ⟨g, 0, none⟩) (Lib.compact zs).length c (Lib.compact zs) ∧ Below base w w' := by
  obtain ⟨g', cap, e, h1, h2, h3, h4, h5, h6⟩ := Lib.holds_of_ownsRow (enc := Value.int .i64) h (by simp)
  injection e with e1 e2 e3
  injection e1 with e1
  injection e1 with e1
  subst e1; subst e3
  subst h5
  have hl := compact_len zs
  refine (Try.slices_Compact_int g 0 c zs w h6 (by omega) h3).mono ?_
  rintro e w' ⟨he, q, rfl⟩
  refine ⟨he, ?_, Lib.below_putRow (Below.refl _ _) h1⟩
  have := Lib.ownsRow_putRow (q := q) (k := (Lib.compact zs).length) (ys := Lib.compact zs ++ List.replicate (zs.length - (Lib.compact zs).length) 0) h (by simp; omega) hl
  rw [List.take_left] at this
  exact this
set_option maxHeartbeats 1000000 in
theorem Clip_any (g n c : Nat) (w : World) (hn : n ≤ c) (hc : c ≤ 9223372036854775807) :
    Calls Try.prog 60 #[.slice (some ⟨g, 0, none⟩) n c] w fun e w' => e = .returned (.slice (some ⟨g, 0, none⟩) n n) ∧ w = w' := by
  go_enter Try.func60, Try.ntmps60
  go_wp2
  go_ret
  exact ⟨rfl, rfl⟩
/-- a call gives a new slice, clipped, that reads as zs, and a code -/
def NewCapCode (w : World) (zs : List Int) (code : Int) (e : Ending) (w' : World) : Prop := ∃ A n c c', e = .returned (.tuple #[.slice A n c', .int .i64 code]) ∧ Own w' w.heap.size A n c zs ∧ Below w.heap.size w w'
set_option maxHeartbeats 4000000 in
theorem CamLevels_any (A : Option Addr) (n c B : Nat) (zs : List Int) (w : World) (h : Ints w B A n zs) (hB : B ≤ w.heap.size) (hn : n ≤ 1048576) :
    Calls Try.prog 25 #[.slice A n c] w (NewCapCode w (lvL zs) (lvC zs)) := by
  have HL := Lib.hid h.len
  have H := Lib.hid (h.more hB)
  have cV := fun (W : World) (h : Ints W w.heap.size A n zs) => ValidCam_any A n c w.heap.size zs W h hn
  clear h hB
  cases hv : vCam zs
  · rw [show lvL zs = [] by simp [lvL, hv], show lvC zs = 1 by simp [lvC, hv]]
    rw [hv] at cV
    have CV := Lib.hid cV
    clear cV
    go_enter Try.func25, Try.ntmps25
    go_wp2_with (go_at_call 56; refine (CV.out _ (by exact Ints.below (H.out) (by (repeat (first | with_reducible exact Below.refl _ _ | with_reducible refine below_alloc ?_ _ | with_reducible refine below_drewN ?_ _ | with_reducible refine Below.drew ?_ | ((with_reducible refine below_set ?_ ?_ _); rotate_left; (focus (first | (simp; done) | (simp; omega) | omega))) | with_reducible refine below_call ?_ (by assumption)))))).mono ?_; rintro e w' ⟨rfl, rfl⟩)
    go_ret2
    exact ⟨none, 0, 0, 0, rfl, Own.nil_, by (repeat (first | with_reducible exact Below.refl _ _ | with_reducible refine below_alloc ?_ _ | with_reducible refine below_drewN ?_ _ | with_reducible refine Below.drew ?_ | ((with_reducible refine below_set ?_ ?_ _); rotate_left; (focus (first | (simp; done) | (simp; omega) | omega))) | with_reducible refine below_call ?_ (by assumption)))⟩
  · rw [show lvL zs = zs.foldl putL [] by simp [lvL, hv], show lvC zs = 0 by simp [lvC, hv], ← levels_eq zs]
    have hn1 : 1 ≤ n := by have := (vCam_yes hv).2.1; rw [HL.out] at this; exact this
    have hln := compact_len (zs.mergeSort fun x y => decide (x ≤ y))
    rw [List.length_mergeSort, HL.out] at hln
    rw [hv] at cV
    have CV := Lib.hid cV
    have HLN := Lib.hid hln
    clear cV hln
    go_enter Try.func25, Try.ntmps25
    go_wp2_with (first | (go_at_call 56; refine (CV.out _ (by exact Ints.below (H.out) (by (repeat (first | with_reducible exact Below.refl _ _ | with_reducible refine below_alloc ?_ _ | with_reducible refine below_drewN ?_ _ | with_reducible refine Below.drew ?_ | ((with_reducible refine below_set ?_ ?_ _); rotate_left; (focus (first | (simp; done) | (simp; omega) | omega))) | with_reducible refine below_call ?_ (by assumption)))))).mono ?_; rintro e w' ⟨rfl, rfl⟩) | fail)
    go_at_call 58
    refine (Clone_any A n c w.heap.size zs _ H.out (Nat.le_refl _) hn1 hn).mono ?_
    rintro e w1 ⟨A1, c1, rfl, ho1, hb1⟩
    rcases ho1.form with ⟨_, hx, _⟩ | ⟨g, rfl, hg, hgl⟩
    · omega
    have O1 := Lib.hid ho1
    have HB1 := Lib.hid hb1
    clear ho1 hb1
    go_wp2_with fail
    go_at_call 59
    refine (sort_own g n c1 w.heap.size zs _ O1.out hn).mono ?_
    rintro e w2 ⟨rfl, ho2, hb2⟩
    have O2 := Lib.hid ho2
    have HB2 := Lib.hid (HB1.out.trans hb2)
    clear ho2 hb2
    go_wp2_with fail
    go_at_call 61
    refine (compact_own g n c1 w.heap.size _ _ O2.out hn).mono ?_
    rintro e w3 ⟨rfl, ho3, hb3⟩
    have O3 := Lib.hid ho3
    have HB3 := Lib.hid (HB2.out.trans hb3)
    have hcap : (Lib.compact (zs.mergeSort fun x y => decide (x ≤ y))).length ≤ c1 ∧ c1 ≤ 9223372036854775807 := by
      rcases ho3.2 with ⟨e, h0⟩ | ⟨g, cap, cur, e, hb, hh, h1, h2, h3, h4⟩
      · cases e
      · injection e with e1 e2 e3
        subst e3
        exact ⟨h1, by unfold maxLen at h2; omega⟩
    clear ho3 hb3
    go_wp2_with (first | (go_at_call 60; refine (Clip_any g (Lib.compact (zs.mergeSort fun x y => decide (x ≤ y))).length c1 _ hcap.1 hcap.2).mono ?_; rintro e w' ⟨rfl, rfl⟩) | fail)
    go_ret2
    exact ⟨_, _, c1, _, rfl, O3.out, HB3.out⟩
end Go.Proofs.Ytmbdedkelckedaa
