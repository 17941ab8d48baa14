/- The program's CamFaults: the faults of some years. No conditions but that there are at most 2^20 months, rules and levels. -/
import Derived.Test.YthjldjbblaioaaaFaults
namespace Go.Proofs.Ythjldjbblaioaaa
open Go.RowKit
set_option linter.unusedVariables false
set_option linter.unusedSimpArgs false
/-- the faults of j years from year f on -/
def allF (ms : List Mth) (rs : List Rul) (n n' : Nat) (zs : List Int) (l f : Nat) : Nat → List Flt
  | 0 => []
  | j + 1 => allF ms rs n n' zs l f j ++ fY ms rs n' zs (placeY l n (f + j)) (f + j) n
theorem allF_mono (ms : List Mth) (rs : List Rul) (n n' : Nat) (zs : List Int) (l f j : Nat) : ∀ d, (allF ms rs n n' zs l f j).length ≤ (allF ms rs n n' zs l f (j + d)).length
  | 0 => Nat.le_refl _
  | d + 1 => by
    have ih := allF_mono ms rs n n' zs l f j d
    show _ ≤ (allF ms rs n n' zs l f (j + d) ++ fY ms rs n' zs (placeY l n (f + (j + d))) (f + (j + d)) n).length
    rw [List.length_append]; omega
def rCF (nm : ByteArray) (n n' : Nat) (ms : List Mth) (rs : List Rul) (cw : Int) (zs : List Int) (l : Nat) (f t : Int) : List Flt × Int :=
  if askV nm n n' ms rs cw zs l = 0 then
    if inB f 0 9999 && (inB t 0 9999 && decide (f ≤ t)) then
      if 40 < (allF ms rs n n' zs l f.toNat (t.toNat + 1 - f.toNat)).length then ([], 5) else (allF ms rs n n' zs l f.toNat (t.toNat + 1 - f.toNat), 0)
    else ([], 2)
  else ([], askV nm n n' ms rs cw zs l)
section
variable {nm : ByteArray} {n n' : Nat} {ms : List Mth} {rs : List Rul} {cw : Int} {zs : List Int} {l : Nat} {f t : Int}
theorem rCF_bad {v : Int} (h : askV nm n n' ms rs cw zs l = v) (h0 : v ≠ 0) : rCF nm n n' ms rs cw zs l f t = ([], v) := by rw [rCF, h, if_neg h0]
theorem rCF_far (h : askV nm n n' ms rs cw zs l = 0) (h2 : (inB f 0 9999 && (inB t 0 9999 && decide (f ≤ t))) = false) : rCF nm n n' ms rs cw zs l f t = ([], 2) := by rw [rCF, h, if_pos rfl, h2]; rfl
theorem rCF_full {F N : Nat} (h : askV nm n n' ms rs cw zs l = 0) (h2 : (inB (F : Int) 0 9999 && (inB ((F + N : Nat) : Int) 0 9999 && decide ((F : Int) ≤ ((F + N : Nat) : Int)))) = true) (h3 : 40 < (allF ms rs n n' zs l F (N + 1)).length) : rCF nm n n' ms rs cw zs l (F : Int) ((F + N : Nat) : Int) = ([], 5) := by
  rw [rCF, h, if_pos rfl, h2, if_pos rfl, Int.toNat_natCast, Int.toNat_natCast, show F + N + 1 - F = N + 1 by omega, if_pos h3]
theorem rCF_ok {F N : Nat} (h : askV nm n n' ms rs cw zs l = 0) (h2 : (inB (F : Int) 0 9999 && (inB ((F + N : Nat) : Int) 0 9999 && decide ((F : Int) ≤ ((F + N : Nat) : Int)))) = true) (h3 : ¬ (40 < (allF ms rs n n' zs l F (N + 1)).length)) : rCF nm n n' ms rs cw zs l (F : Int) ((F + N : Nat) : Int) = (allF ms rs n n' zs l F (N + 1), 0) := by
  rw [rCF, h, if_pos rfl, h2, if_pos rfl, Int.toNat_natCast, Int.toNat_natCast, show F + N + 1 - F = N + 1 by omega, if_neg h3]
theorem rCF_len : (rCF nm n n' ms rs cw zs l f t).1.length ≤ 40 := by
  unfold rCF
  split
  · split
    · split
      · simp
      · rename_i h; show (allF ms rs n n' zs l f.toNat (t.toNat + 1 - f.toNat)).length ≤ 40; omega
    · simp
  · simp
end
/-- a call gives a new row of faults and a code -/
def NewFC (w : World) (R : List Flt × Int) (e : Ending) (w' : World) : Prop := ∃ A m c, e = .returned (.tuple #[.slice A m c, .int .i64 R.2]) ∧ OwnF w' w.heap.size A m c R.1 ∧ Below w.heap.size w w'
theorem newFC_bad {w w' : World} {v : Int} (h : Below w.heap.size w w') : NewFC w ([], v) (.returned (.tuple #[.slice none 0 0, .int .i64 v])) w' := ⟨none, 0, 0, rfl, OwnF.nil_, h⟩
set_option maxHeartbeats 4000000 in
theorem CamFaults_any (nm : ByteArray) (A A' L : Option Addr) (n n' c c' l e B : Nat) (ms : List Mth) (rs : List Rul) (cw : Int) (zs : List Int) (f t : Int) (w : World) (h : Months w B A n ms) (h' : Rules w B A' n' rs) (hI : Ints w B L l zs) (hB : B ≤ w.heap.size) (hn : n ≤ c) (hc : c ≤ 1048576) (hn' : n' ≤ 1048576) (hl : l ≤ 1048576) (hle : l ≤ e) (he : e ≤ 9223372036854775807) :
    Calls Try.prog 32 #[.agg #[.string nm, .slice A n c, .slice A' n' c', .int .i64 cw], .slice L l e, .int .i64 f, .int .i64 t] w (NewFC w (rCF nm n n' ms rs cw zs l f t)) := by
  have H := Lib.hid (Tri.more h hB)
  have H' := Lib.hid (Tri.more h' hB)
  have HI := Lib.hid (hI.more hB)
  have HC0 := Lib.hid (cal_new w 27 nm A A' n n' c c' cw)
  have BA := Lib.hid (alb' w (.cells #[.string nm, .slice A n c, .slice A' n' c', .int .i64 cw] 27))
  clear h h' hI
  have cA := fun (W : World) (hb : Below w.heap.size w W) => askedCam_any nm A A' L n n' c c' l e w.heap.size ms rs cw zs W (Tri.below H.out hb) (Tri.below H'.out hb) (Ints.below HI.out hb) hb.size hn hc hn' hl
  obtain ⟨v, hv⟩ : ∃ v, askV nm n n' ms rs cw zs l = v := ⟨_, rfl⟩
  rw [hv] at cA
  have CA := Lib.hid cA
  clear cA
  by_cases h0 : v = 0
  · subst h0
    obtain ⟨k1, k2, k3⟩ := ask_yes hv
    cases v1 : inB f 0 9999
    · rw [rCF_far hv (by rw [v1]; rfl)]
      have Y1 := Lib.hid v1
      clear hv k1 k2 k3 v1
      go_enter Try.func32, Try.ntmps32
      go_wp2_with fail
      go_at_call 78
      refine (CA.out _ BA.out).mono ?_
      rintro e1 w1 ⟨rfl, hb1⟩
      have KC := Lib.hid (HC0.out.call hb1)
      have HB := Lib.hid (BA.out.trans (hb1.mono BA.out.size))
      clear hb1
      go_wp2_with (first | (go_at_call 47; refine (isYear_val _ _ _ Y1.out).mono ?_; rintro e1 w' ⟨rfl, rfl⟩) | fail)
      go_ret2
      exact newFC_bad HB.out
    cases v2 : inB t 0 9999
    · rw [rCF_far hv (by rw [v1, v2]; rfl)]
      have Y1 := Lib.hid v1
      have Y2 := Lib.hid v2
      clear hv k1 k2 k3 v1 v2
      go_enter Try.func32, Try.ntmps32
      go_wp2_with fail
      go_at_call 78
      refine (CA.out _ BA.out).mono ?_
      rintro e1 w1 ⟨rfl, hb1⟩
      have KC := Lib.hid (HC0.out.call hb1)
      have HB := Lib.hid (BA.out.trans (hb1.mono BA.out.size))
      clear hb1
      go_wp2_with (first | (go_at_call 47; refine (isYear_val _ _ _ (by first | exact Y1.out | exact Y2.out)).mono ?_; rintro e1 w' ⟨rfl, rfl⟩) | fail)
      go_ret2
      exact newFC_bad HB.out
    have y1 := inB_yes v1
    have y2 := inB_yes v2
    have Y1 := Lib.hid v1
    have Y2 := Lib.hid v2
    by_cases v3 : f ≤ t
    · obtain ⟨F, rfl⟩ := Int.eq_ofNat_of_zero_le y1.1
      obtain ⟨T, rfl⟩ := Int.eq_ofNat_of_zero_le y2.1
      obtain ⟨N, rfl⟩ : ∃ N, T = F + N := ⟨T - F, by omega⟩
      have V := Lib.hid (show (inB (F : Int) 0 9999 && (inB ((F + N : Nat) : Int) 0 9999 && decide ((F : Int) ≤ ((F + N : Nat) : Int)))) = true by rw [v1, v2, decide_eq_true v3]; rfl)
      have HV := Lib.hid hv
      obtain ⟨z1, z2, z3⟩ := vCam_yes k2
      rw [HI.out.len] at z2 z3
      obtain ⟨-, -, -, -, ⟨n1, n2⟩, -, -⟩ := vCal_yes k1
      have CF := Lib.hid (fun (W : World) (hb : Below w.heap.size w W) (y : Nat) (hy : y ≤ 1000000000) => faultsOf_any nm A A' L n n' c c' l e w.heap.size ms rs cw zs y W (Tri.below H.out hb) (Tri.below H'.out hb) (Ints.below HI.out hb) hb.size n1 n2 hn' z2 z3 hle he k3 (vCal_ev k1) hy)
      have hTN : (F + N : Nat) ≤ 9999 := by omega
      clear hv k1 k2 k3 v1 v2 z1
      go_enter Try.func32, Try.ntmps32
      go_wp2_with fail
      go_at_call 78
      refine (CA.out _ BA.out).mono ?_
      rintro e1 w1 ⟨rfl, hb1⟩
      have KC := Lib.hid (HC0.out.call hb1)
      have HB := Lib.hid (BA.out.trans (hb1.mono BA.out.size))
      clear hb1
      go_wp2_with (first | (go_at_call 47; refine (isYear_val _ _ _ (by first | exact Y1.out | exact Y2.out)).mono ?_; rintro e1 w' ⟨rfl, rfl⟩) | fail)
      go_loopw [11, 12] (fun a t wr => ∃ (j m cc : Nat) (X : Option Addr), t = .int .i64 ((F + j : Nat) : Int) ∧ j ≤ N + 1 ∧ a = .slice X m cc ∧ m ≤ 40 ∧ Hid (OwnF wr (w.heap.size + 1) X m cc (allF ms rs n n' zs l F j)) ∧ Hid (CalAt wr w.heap.size nm A A' n n' c c' cw) ∧ Hid (Below w.heap.size w wr)) (fun _ t _ => F + N + 1 - (intOf t).toNat)
      case atStart => exact ⟨0, 0, 0, none, rfl, Nat.zero_le _, rfl, by omega, Lib.hid OwnF.nil_, KC, HB⟩
      case round =>
        clear KC HB
        obtain ⟨j, m, cc, X, rfl, hj, rfl, hm, HO, HC, HB⟩ := hrel
        obtain ⟨zc, u0, u1, u2, u3⟩ := HC.out
        by_cases hlt : j ≤ N
        · have i1 : ((F + j : Nat) : Int) ≤ ((F + N : Nat) : Int) := by omega
          have hst : allF ms rs n n' zs l F (j + 1) = allF ms rs n n' zs l F j ++ fY ms rs n' zs (placeY l n (F + j)) (F + j) n := rfl
          have hfl := fY_len ms rs n' zs (placeY l n (F + j)) (F + j) n
          have hmo := allF_mono ms rs n n' zs l F (j + 1) (N - j)
          rw [show j + 1 + (N - j) = N + 1 by omega] at hmo
          have hln := HO.out.len
          have cf := fun (W : World) (hb : Below w.heap.size w W) => CF.out W hb (F + j) (by omega)
          generalize fY ms rs n' zs (placeY l n (F + j)) (F + j) n = G at *
          have CF2 := Lib.hid cf
          have HST := Lib.hid hst
          have HMO := Lib.hid hmo
          have HLN := Lib.hid hln
          have HFL := Lib.hid hfl
          clear cf hst hmo hln hfl
          go_wp2_with fail
          go_at_call 79
          refine (CF2.out _ HB.out).mono ?_
          rintro e1 w3 ⟨X2, m2, c2, rfl, ho3, hb3⟩
          have HO3 := Lib.hid ho3
          have HO' := Lib.hid (HO.out.call hb3)
          have HC' := Lib.hid (HC.out.call hb3)
          have HB' := Lib.hid (below_call HB.out hb3)
          have hm2 : m2 ≤ n := by have := HFL.out; have := HO3.out.len; omega
          have zz := HC'.out.lt
          clear ho3 hb3 zc u0 u1 u2 u3
          by_cases hfull : 40 < m + m2
          · have hf2 : (40 : Int) < (m : Int) + (m2 : Int) := by omega
            have hf3 : (40 : Int) < ((m + m2 : Nat) : Int) := by omega
            go_wp2_with (first | (at_builtin; refine wpList_appFs rfl _ _ rfl _ (w.heap.size + 1) _ X X2 m cc m2 c2 _ _ rfl HO'.out rfl HO3.out (by omega) (by omega) ?_; intro A2 c4 w4 ho4 hb4; have HO4 := Lib.hid ho4; have HB4 := Lib.hid (HB'.out.trans (hb4.mono (by omega))); have HC4 := Lib.hid (HC'.out.below (by omega) hb4); clear ho4 hb4) | fail)
            have HR := Lib.hid (rCF_full HV.out V.out (by have h1 := HMO.out; have h2 := HO4.out.len; rw [HST.out] at h1; omega))
            go_ret2
            rw [HR.out]
            exact newFC_bad HB4.out
          · have hf2 : ¬ ((40 : Int) < (m : Int) + (m2 : Int)) := by omega
            have hf3 : ¬ ((40 : Int) < ((m + m2 : Nat) : Int)) := by omega
            go_wp2_with (first | (at_builtin; refine wpList_appFs rfl _ _ rfl _ (w.heap.size + 1) _ X X2 m cc m2 c2 _ _ rfl HO'.out rfl HO3.out (by omega) (by omega) ?_; intro A2 c4 w4 ho4 hb4; have HO4 := Lib.hid ho4; have HB4 := Lib.hid (HB'.out.trans (hb4.mono (by omega))); have HC4 := Lib.hid (HC'.out.below (by omega) hb4); clear ho4 hb4) | fail)
            go_roundw
            case rel => exact ⟨j + 1, m + m2, c4, A2, by go_num, by omega, rfl, by omega, Lib.hid (by rw [HST.out]; exact HO4.out), HC4, HB4⟩
            case measure => simp [intOf]; omega
        · have i1 : ¬ (((F + j : Nat) : Int) ≤ ((F + N : Nat) : Int)) := by omega
          have hE : j = N + 1 := by omega
          have HR := Lib.hid (show rCF nm n n' ms rs cw zs l (F : Int) ((F : Int) + (N : Int)) = (allF ms rs n n' zs l F (N + 1), 0) by have h0 := rCF_ok HV.out V.out (by have h2 := HO.out.len; rw [hE] at h2; omega); push_cast at h0; exact h0)
          have HE := Lib.hid hE
          clear hE
          go_wp2
          go_ret2
          rw [HR.out]
          exact ⟨X, m, cc, rfl, by rw [← HE.out]; exact HO.out.low (by omega), HB.out⟩
    · rw [rCF_far hv (by rw [v1, v2, decide_eq_false v3]; rfl)]
      have v4 : t < f := by omega
      clear hv k1 k2 k3 v1 v2
      go_enter Try.func32, Try.ntmps32
      go_wp2_with fail
      go_at_call 78
      refine (CA.out _ BA.out).mono ?_
      rintro e1 w1 ⟨rfl, hb1⟩
      have KC := Lib.hid (HC0.out.call hb1)
      have HB := Lib.hid (BA.out.trans (hb1.mono BA.out.size))
      clear hb1
      go_wp2_with (first | (go_at_call 47; refine (isYear_val _ _ _ (by first | exact Y1.out | exact Y2.out)).mono ?_; rintro e1 w' ⟨rfl, rfl⟩) | fail)
      go_ret2
      exact newFC_bad HB.out
  · rw [rCF_bad hv h0]
    have e0 : (v != 0) = true := by simpa using h0
    clear hv
    go_enter Try.func32, Try.ntmps32
    go_wp2_with fail
    go_at_call 78
    refine (CA.out _ BA.out).mono ?_
    rintro e1 w1 ⟨rfl, hb1⟩
    have KC := Lib.hid (HC0.out.call hb1)
    have HB := Lib.hid (BA.out.trans (hb1.mono BA.out.size))
    clear hb1
    go_wp2
    go_ret2
    exact newFC_bad HB.out
end Go.Proofs.Ythjldjbblaioaaa
