/- Marks written into a slice whose capacity was clipped. No conditions but that it has at most 2^20 elements. -/
import Derived.Test.YthicmkilhakdiaaInts
namespace Go.Proofs.Ythicmkilhakdiaa
open Go.RowKit
set_option linter.unusedVariables false
set_option linter.unusedSimpArgs false
set_option maxHeartbeats 1000000 in
theorem markInt64S_cap (A : Option Addr) (n c c' base : Nat) (zs : List Int) (k : Int) (w : World) (h : Own w base A n c zs) (hn : n ≤ 1048576) (hk0 : 0 ≤ k) (hk1 : k ≤ 1000000000000) :
    Calls Try.prog 8 #[.slice A n c', .int .i64 k] w fun e w' => e = .returned (.int .i64 (k + n)) ∧ Own w' base A n c (marks k n) ∧ w.grownBy w' (Value.slice A n c).ownBlock := by
  have hl := h.len
  rcases h.form with ⟨rfl, h0, hc0⟩ | ⟨g, rfl, hg, hgl⟩
  · subst h0
    have HL := Lib.hid hl
    have H := Lib.hid h
    clear hl h
    go_enter Try.func8, Try.ntmps8
    go_wp2
    go_loopw [1, 5] (fun s t wr => s = .int .i64 k ∧ t = .int .i64 0 ∧ wr = w) (fun _ _ _ => 0)
    case atStart => exact ⟨rfl, rfl, rfl⟩
    case round =>
      obtain ⟨rfl, rfl, rfl⟩ := hrel
      go_wp2
      go_ret
      refine ⟨ret_int (by simp), ?_, World.grownBy.refl _ _⟩
      have e : zs = marks k 0 := List.eq_nil_of_length_eq_zero HL.out
      rw [← e]; exact H.out
  · have HL := Lib.hid hl
    have H : Hid (w.ownsRow base 2 1 (.slice (some ⟨g, 0, none⟩) n c) n ((marked k zs 0).map (Value.int .i64))) := by rw [marked_none]; exact Lib.hid h
    clear hl h
    go_enter Try.func8, Try.ntmps8
    go_wp2
    go_loopw [1, 5] (fun s t wr => ∃ i : Nat, s = .int .i64 (k + i) ∧ t = .int .i64 i ∧ i ≤ n ∧ Hid (wr.ownsRow base 2 1 (.slice (some ⟨g, 0, none⟩) n c) n ((marked k zs i).map (Value.int .i64))) ∧ w.grownBy wr (some g)) (fun _ t _ => n - (intOf t).toNat)
    case atStart => exact ⟨0, by simp, rfl, Nat.zero_le _, H, World.grownBy.refl _ _⟩
    case round =>
      obtain ⟨i, rfl, rfl, hi, ho, hb⟩ := hrel
      clear H
      by_cases hlt : i < n
      · have hkl : i < zs.length := by rw [HL.out]; exact hlt
        have hcell : ∃ x, wr.cell? ⟨g, i, none⟩ = some (.int .i64 x) := by
          refine ⟨(marked k zs i).getD i 0, ?_⟩
          rw [World.ownsRow.cellAt ho.out i (by omega), List.getElem?_map]
          have : i < (marked k zs i).length := by rw [marked_len k zs i (by omega)]; exact hkl
          rw [List.getElem?_eq_getElem this, getD_of this]; rfl
        obtain ⟨x, hcell⟩ := hcell
        have hfr := World.ownsRow.frozenAt ho.out i
        have hst := World.ownsRow.stored ho.out i (.int .i64 (k + i))
        rw [← List.map_set, marked_set k zs i hkl] at hst
        have HS := Lib.hid hst
        clear hst hkl
        go_wp2
        go_roundw
        case rel => exact ⟨i + 1, by go_num, by go_num, by omega, Lib.hid HS.out.1, hb.trans HS.out.2⟩
        case measure => simp [intOf]; omega
      · have HE := Lib.hid (show i = n by omega)
        go_wp2
        go_ret
        refine ⟨ret_int (by rw [HE.out]), ?_, hb⟩
        have := ho.out
        rw [HE.out, ← HL.out, marked_full] at this
        rw [← HL.out]; exact this
end Go.Proofs.Ythicmkilhakdiaa
