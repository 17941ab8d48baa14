/- Contract of the validity of months, the reference's. No conditions but that there are fewer than 2^63 months. -/
import Derived.Test.YthjldjbblaioaaaCyc2
namespace Go.Proofs.Ythjldjbblaioaaa
open Go.RowKit
set_option linter.unusedVariables false
set_option linter.unusedSimpArgs false
def nmL (ms : List Mth) (k : Nat) : List UInt8 := (ms.getD k m0).nm.data.toList
def mOk (m : Mth) : Bool := vName m.nm.data.toList && inB m.dy 1 60 && inB m.lp 1 60
/-- month i is valid, and none ahead of it has its name -/
def mAt (ms : List Mth) (i : Nat) : Bool := mOk (ms.getD i m0) && (List.range i).all (fun k => !(nmL ms k == nmL ms i))
def vMonths (ms : List Mth) (n : Nat) : Bool := (List.range n).all (mAt ms) && inB n 1 20
theorem mAt_no {ms : List Mth} {i : Nat} (h : mOk (ms.getD i m0) = false) : mAt ms i = false := by unfold mAt; rw [h]; rfl
theorem mAt_twice {ms : List Mth} {i k : Nat} (hk : k < i) (h : nmL ms k = nmL ms i) : mAt ms i = false := by
  have : (List.range i).all (fun k => !(nmL ms k == nmL ms i)) = false := by
    rw [List.all_eq_false]
    exact ⟨k, List.mem_range.2 hk, by rw [h]; simp⟩
  unfold mAt; rw [this]; simp
theorem mAt_yes {ms : List Mth} {i : Nat} (h : mOk (ms.getD i m0) = true) (hd : ∀ k, k < i → ¬ (nmL ms k = nmL ms i)) : mAt ms i = true := by
  have : (List.range i).all (fun k => !(nmL ms k == nmL ms i)) = true := by
    rw [List.all_eq_true]
    intro k hk
    have := hd k (List.mem_range.1 hk)
    simpa using this
  unfold mAt; rw [this, h]; rfl
theorem vMonths_bad {ms : List Mth} {n i : Nat} (hi : i < n) (h : mAt ms i = false) : vMonths ms n = false := by
  have : (List.range n).all (mAt ms) = false := by
    rw [List.all_eq_false]
    exact ⟨i, List.mem_range.2 hi, by rw [h]; decide⟩
  unfold vMonths; rw [this]; rfl
theorem vMonths_good {ms : List Mth} {n : Nat} (h : ∀ i, i < n → mAt ms i = true) : vMonths ms n = inB n 1 20 := by
  have : (List.range n).all (mAt ms) = true := by
    rw [List.all_eq_true]
    intro i hi
    exact h i (List.mem_range.1 hi)
  unfold vMonths; rw [this]; rfl
set_option maxHeartbeats 2000000 in
theorem l15Months_any (A : Option Addr) (n c B : Nat) (ms : List Mth) (w : World) (h : Months w B A n ms) (hB : B ≤ w.heap.size) (hn : n ≤ 9223372036854775807) :
    Calls Try.prog 104 #[.slice A n c] w fun e w' => e = .returned (.bool (vMonths ms n)) ∧ Below w.heap.size w w' := by
  have H := Lib.hid (Tri.more h hB)
  clear h
  go_enter Try.func104, Try.ntmps104
  go_wp2
  go_loopw [3, 4] (fun t _ wr => ∃ i : Nat, t = .int .i64 i ∧ i ≤ n ∧ Hid (∀ j, j < i → mAt ms j = true) ∧ Below w.heap.size w wr) (fun t _ _ => n - (intOf t).toNat)
  case atStart => exact ⟨0, rfl, Nat.zero_le _, Lib.hid (fun j hj => absurd hj (by omega)), Below.refl _ _⟩
  case round =>
    obtain ⟨i, rfl, hi, hA, hb⟩ := hrel
    have i0 : (0 : Int) ≤ (i : Int) := Int.natCast_nonneg _
    by_cases hlt : i < n
    · have i1 : (i : Int) < (n : Int) := by omega
      obtain ⟨b, off, rfl, hbl, c1, c2, c3⟩ := Months.at_ (Tri.below H.out hb) hlt
      have HVB := Lib.hid (fun h => vMonths_bad (ms := ms) hlt h)
      have HNO := Lib.hid (@mAt_no ms i)
      obtain ⟨m, hm⟩ : ∃ m, ms.getD i m0 = m := ⟨_, rfl⟩
      rw [hm] at c1 c2 c3 HNO
      have HM := Lib.hid hm
      have zb : b < wr.heap.size := by have := hb.size; omega
      have HB := Lib.hid hb
      clear hm hb
      cases h1 : vName m.nm.data.toList
      · have HV := Lib.hid (HVB.out (HNO.out (by unfold mOk; rw [h1]; rfl)))
        have H1 := Lib.hid h1
        clear h1
        go_wp2_with (first | (go_at_call 103; refine (specIsName_any m.nm _).mono ?_; rintro e w2 ⟨rfl, hb2⟩; rw [H1.out]; have HB2 := Lib.hid (below_call HB.out hb2); clear hb2) | fail)
        go_ret
        exact ⟨by rw [HV.out]; rfl, HB2.out⟩
      · cases h2 : inB m.dy 1 60
        · have HV := Lib.hid (HVB.out (HNO.out (by unfold mOk; rw [h1, h2]; rfl)))
          have H1 := Lib.hid h1
          have H2 := Lib.hid h2
          clear h1 h2
          go_wp2_with (first | (go_at_call 103; refine (specIsName_any m.nm _).mono ?_; rintro e w2 ⟨rfl, hb2⟩; rw [H1.out]; have HB2 := Lib.hid (below_call HB.out hb2); have d1 := cell_call hb2 (p := ⟨b, off + i * 3, none⟩) (by simpa using zb) c1; have d2 := cell_call hb2 (p := ⟨b, off + i * 3 + 1, none⟩) (by simpa using zb) c2; have d3 := cell_call hb2 (p := ⟨b, off + i * 3 + 2, none⟩) (by simpa using zb) c3; clear hb2) | (go_at_call 81; refine (l00In_val _ _ _ _ _ H2.out).mono ?_; rintro e w3 ⟨rfl, rfl⟩) | fail)
          go_ret
          exact ⟨by rw [HV.out]; rfl, HB2.out⟩
        · cases h3 : inB m.lp 1 60
          · have HV := Lib.hid (HVB.out (HNO.out (by unfold mOk; rw [h1, h2, h3]; rfl)))
            have H1 := Lib.hid h1
            have H2 := Lib.hid h2
            have H3 := Lib.hid h3
            clear h1 h2 h3
            go_wp2_with (first | (go_at_call 103; refine (specIsName_any m.nm _).mono ?_; rintro e w2 ⟨rfl, hb2⟩; rw [H1.out]; have HB2 := Lib.hid (below_call HB.out hb2); have d1 := cell_call hb2 (p := ⟨b, off + i * 3, none⟩) (by simpa using zb) c1; have d2 := cell_call hb2 (p := ⟨b, off + i * 3 + 1, none⟩) (by simpa using zb) c2; have d3 := cell_call hb2 (p := ⟨b, off + i * 3 + 2, none⟩) (by simpa using zb) c3; clear hb2) | (go_at_call 81; refine (l00In_val _ _ _ _ _ (by first | exact H2.out | exact H3.out)).mono ?_; rintro e w3 ⟨rfl, rfl⟩) | fail)
            go_ret
            exact ⟨by rw [HV.out]; rfl, HB2.out⟩
          · have HO := Lib.hid (show mOk m = true by unfold mOk; rw [h1, h2, h3]; rfl)
            have H1 := Lib.hid h1
            have H2 := Lib.hid h2
            have H3 := Lib.hid h3
            clear h1 h2 h3
            go_wp2_with (first | (go_at_call 103; refine (specIsName_any m.nm _).mono ?_; rintro e w2 ⟨rfl, hb2⟩; rw [H1.out]; have HB2 := Lib.hid (below_call HB.out hb2); have d1 := cell_call hb2 (p := ⟨b, off + i * 3, none⟩) (by simpa using zb) c1; have d2 := cell_call hb2 (p := ⟨b, off + i * 3 + 1, none⟩) (by simpa using zb) c2; have d3 := cell_call hb2 (p := ⟨b, off + i * 3 + 2, none⟩) (by simpa using zb) c3; have zb2 := lt_call hb2 zb; clear hb2) | (go_at_call 81; refine (l00In_val _ _ _ _ _ (by first | exact H2.out | exact H3.out)).mono ?_; rintro e w3 ⟨rfl, rfl⟩) | fail)
            go_loopw [4] (fun t wr => ∃ k : Nat, t = .int .i64 k ∧ k ≤ i ∧ Hid (∀ j, j < k → ¬ (nmL ms j = nmL ms i)) ∧ Below w.heap.size w wr ∧ wr.cell? ⟨b, off + i * 3, none⟩ = some (.string m.nm)) (fun t _ => i - (intOf t).toNat)
            case atStart => exact ⟨0, rfl, Nat.zero_le _, Lib.hid (fun j hj => absurd hj (by omega)), HB2.out, d1⟩
            case round =>
              obtain ⟨k, rfl, hk, hD, hbk, hci⟩ := hrel
              have j0 : (0 : Int) ≤ (k : Int) := Int.natCast_nonneg _
              by_cases hki : k < i
              · have j1 : (k : Int) < (i : Int) := by omega
                have j2 : (k : Int) < (n : Int) := by omega
                obtain ⟨b', off', e1, _, f1, _, _⟩ := Months.at_ (Tri.below H.out hbk) (show k < n by omega)
                injection e1 with e1
                injection e1 with e1 e2
                subst e1
                subst e2
                obtain ⟨x, hx⟩ : ∃ x, ms.getD k m0 = x := ⟨_, rfl⟩
                rw [hx] at f1
                have HNK := Lib.hid (show nmL ms k = x.nm.toList by unfold nmL; rw [hx, ByteArray.toList_eq])
                have HNI := Lib.hid (show nmL ms i = m.nm.toList by unfold nmL; rw [HM.out, ByteArray.toList_eq])
                clear hx
                cases hq : (x.nm.toList == m.nm.toList)
                · have HQ := Lib.hid (show ¬ (x.nm.toList = m.nm.toList) by simpa using hq)
                  go_wp2
                  go_quiet (fail)
                  go_wp2
                  go_roundw
                  case rel =>
                    refine ⟨k + 1, by go_num, by omega, Lib.hid (fun j hj => ?_), by (repeat (first | with_reducible exact Below.refl _ _ | with_reducible refine below_alloc ?_ _ | with_reducible refine below_drewN ?_ _ | with_reducible refine Below.drew ?_ | ((with_reducible refine below_set ?_ ?_ _); rotate_left; (focus (first | (simp; done) | (simp; omega) | omega))) | with_reducible refine below_call ?_ (by assumption))), by simpa using hci⟩
                    by_cases e : j = k
                    · subst e; rw [HNK.out, HNI.out]; exact HQ.out
                    · exact hD.out j (by omega)
                  case measure => simp [intOf]; omega
                · have HV := Lib.hid (HVB.out (mAt_twice hki (by rw [HNK.out, HNI.out]; exact eq_of_beq hq)))
                  go_wp2
                  go_quiet (fail)
                  go_wp2
                  go_ret
                  exact ⟨by rw [HV.out]; rfl, by (repeat (first | with_reducible exact Below.refl _ _ | with_reducible refine below_alloc ?_ _ | with_reducible refine below_drewN ?_ _ | with_reducible refine Below.drew ?_ | ((with_reducible refine below_set ?_ ?_ _); rotate_left; (focus (first | (simp; done) | (simp; omega) | omega))) | with_reducible refine below_call ?_ (by assumption)))⟩
              · go_wp2
                go_roundw
                case rel =>
                  refine ⟨i + 1, by go_num, by omega, Lib.hid (fun j hj => ?_), hbk⟩
                  by_cases e : j = i
                  · subst e; exact mAt_yes (by rw [HM.out]; exact HO.out) (fun k' hk' => hD.out k' (by omega))
                  · exact hA.out j (by omega)
                case measure => simp [intOf]; omega
    · have HV := Lib.hid (show vMonths ms n = inB n 1 20 from vMonths_good (fun j hj => hA.out j (by omega)))
      go_wp2_with (first | (go_at_call 81; refine (l00In_any _ _ _ _).mono ?_; rintro e w3 ⟨rfl, rfl⟩) | fail)
      go_ret
      exact ⟨by rw [HV.out]; rfl, hb⟩
end Go.Proofs.Ythjldjbblaioaaa
