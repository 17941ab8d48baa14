/- The reference's CamFaults: the faults of some years. No conditions but that there are at most 2^20 months, rules and levels. -/
import Derived.Test.YtbmiamfgdjiodaaCamF2
namespace Go.Proofs.Ytbmiamfgdjiodaa
open Go.RowKit
set_option linter.unusedVariables false
set_option linter.unusedSimpArgs false
theorem fY_mono (ms : List Mth) (rs : List Rul) (n' : Nat) (zs : List Int) (p y k : Nat) : ∀ d, (fY ms rs n' zs p y k).length ≤ (fY ms rs n' zs p y (k + d)).length
  | 0 => Nat.le_refl _
  | d + 1 => by
    have ih := fY_mono ms rs n' zs p y k d
    rw [show k + (d + 1) = (k + d) + 1 by omega]
    by_cases h : zs.getD (p + (k + d)) 0 = dayK ms rs n' (y : Int) (((k + d : Nat) : Int) + 1)
    · rw [fY_same h]; exact ih
    · rw [fY_more h, List.length_append]; omega
theorem ownF_empty {w : World} {base g : Nat} (hg : g = w.heap.size) (hb : base ≤ w.heap.size) : OwnF (w.alloc (.cells #[] 88)) base (some ⟨g, 0, none⟩) 0 0 [] := by
  subst hg
  exact World.ownsRow_lit w #[] 0 hb (Nat.zero_le _) (by simp)
set_option maxRecDepth 8000 in
set_option maxHeartbeats 4000000 in
theorem specCamFaults_any (nm : ByteArray) (A A' L : Option Addr) (n n' c c' l e B : Nat) (ms : List Mth) (rs : List Rul) (cw : Int) (zs : List Int) (f t : Int) (w : World) (h : Months w B A n ms) (h' : Rules w B A' n' rs) (hI : Ints w B L l zs) (hB : B ≤ w.heap.size) (hn : n ≤ 1048576) (hn' : n' ≤ 1048576) (hl : l ≤ 1048576) (hw : ∀ j, j < n' → -9223372036854775808 ≤ (rs.getD j r0).ev) :
    Calls Try.prog 16 #[.agg #[.string nm, .slice A n c, .slice A' n' c', .int .i64 cw], .slice L l e, .int .i64 f, .int .i64 t] w (NewFC w (rCF nm n n' ms rs cw zs l f t)) := by
  have H := Lib.hid (Tri.more h hB)
  have H' := Lib.hid (Tri.more h' hB)
  have HI := Lib.hid (hI.more hB)
  have HC0 := Lib.hid (cal_new w 33 nm A A' n n' c c' cw)
  have BA := Lib.hid (alb' w (.cells #[.string nm, .slice A n c, .slice A' n' c', .int .i64 cw] 33))
  clear h h' hI
  have cA := fun (W : World) (hC : CalAt W w.heap.size nm A A' n n' c c' cw) (hb : Below w.heap.size w W) => l17Ask_any w.heap.size nm A A' L n n' c c' l e w.heap.size ms rs cw zs W hC (Tri.below H.out hb) (Tri.below H'.out hb) (Ints.below HI.out hb) hb.size hn hn' hl hw
  obtain ⟨v, hv⟩ : ∃ v, askV nm n n' ms rs cw zs l = v := ⟨_, rfl⟩
  rw [hv] at cA
  have CA := Lib.hid cA
  clear cA hw
  by_cases h0 : v = 0
  · subst h0
    obtain ⟨k1, k2, k3⟩ := ask_yes hv
    cases v1 : inB f 0 9999
    · rw [rCF_far hv (by rw [v1]; rfl)]
      have Y1 := Lib.hid v1
      clear hv k1 k2 k3 v1
      go_enter Try.func16, Try.ntmps16
      go_wp2_with fail
      go_at_call 51
      refine (CA.out _ HC0.out BA.out).mono ?_
      rintro e1 w1 ⟨rfl, hb1⟩
      have KC := Lib.hid (HC0.out.call hb1)
      have HB := Lib.hid (BA.out.trans (hb1.mono BA.out.size))
      clear hb1
      go_wp2_with (first | (go_at_call 52; refine (l15Year_val _ _ _ Y1.out).mono ?_; rintro e1 w' ⟨rfl, rfl⟩) | fail)
      go_ret2
      exact newFC_bad HB.out
    cases v2 : inB t 0 9999
    · rw [rCF_far hv (by rw [v1, v2]; rfl)]
      have Y1 := Lib.hid v1
      have Y2 := Lib.hid v2
      clear hv k1 k2 k3 v1 v2
      go_enter Try.func16, Try.ntmps16
      go_wp2_with fail
      go_at_call 51
      refine (CA.out _ HC0.out BA.out).mono ?_
      rintro e1 w1 ⟨rfl, hb1⟩
      have KC := Lib.hid (HC0.out.call hb1)
      have HB := Lib.hid (BA.out.trans (hb1.mono BA.out.size))
      clear hb1
      go_wp2_with (first | (go_at_call 52; refine (l15Year_val _ _ _ (by first | exact Y1.out | exact Y2.out)).mono ?_; rintro e1 w' ⟨rfl, rfl⟩) | fail)
      go_ret2
      exact newFC_bad HB.out
    have y1 := inB_yes v1
    have y2 := inB_yes v2
    have Y1 := Lib.hid v1
    have Y2 := Lib.hid v2
    by_cases v3 : f ≤ t
    · obtain ⟨F, rfl⟩ := Int.eq_ofNat_of_zero_le y1.1
      obtain ⟨T, rfl⟩ := Int.eq_ofNat_of_zero_le y2.1
      obtain ⟨N, hFN⟩ : ∃ N, F + N = T := ⟨T - F, by omega⟩
      have HFN := Lib.hid hFN
      have V := Lib.hid (show (inB (F : Int) 0 9999 && (inB ((F + N : Nat) : Int) 0 9999 && decide ((F : Int) ≤ ((F + N : Nat) : Int)))) = true by rw [hFN, v1, v2, decide_eq_true v3]; rfl)
      have HV := Lib.hid hv
      obtain ⟨z1, z2, z3⟩ := vCam_yes k2
      rw [HI.out.len] at z2 z3
      obtain ⟨-, -, -, -, ⟨n1, n2⟩, -, -⟩ := vCal_yes k1
      have CF := Lib.hid (fun (W : World) (hC : CalAt W w.heap.size nm A A' n n' c c' cw) (hb : Below w.heap.size w W) (y k : Nat) (hy : y ≤ 1000000000) (hk : k < n) => l17Month_any w.heap.size nm A A' L n n' c c' l e w.heap.size ms rs cw zs y k W hC (Tri.below H.out hb) (Tri.below H'.out hb) (Ints.below HI.out hb) hb.size n1 n2 hn' z2 z3 k3 (vCal_ev k1) hy hk)
      have hTN : T ≤ 9999 := by omega
      have q8 : ¬ (T < F) := by omega
      have q9 : decide (T < F) = false := decide_eq_false q8
      clear hv k1 k2 k3 v1 v2 z1 hFN
      go_enter Try.func16, Try.ntmps16
      go_wp2_with fail
      go_at_call 51
      refine (CA.out _ HC0.out BA.out).mono ?_
      rintro e1 w1 ⟨rfl, hb1⟩
      have KC := Lib.hid (HC0.out.call hb1)
      have HB := Lib.hid (BA.out.trans (hb1.mono BA.out.size))
      clear hb1
      go_wp2_with (first | (go_at_call 52; refine (l15Year_val _ _ _ (by first | exact Y1.out | exact Y2.out)).mono ?_; rintro e1 w' ⟨rfl, rfl⟩) | fail)
      go_loopw [11, 12, 13, 14, 15] (fun a t _ _ _ wr => ∃ (j m cc : Nat) (X : Option Addr), t = .int .i64 ((F + j : Nat) : Int) ∧ j ≤ N + 1 ∧ a = .slice X m cc ∧ m ≤ 40 ∧ Hid (OwnF wr (w.heap.size + 1) X m cc (allF ms rs n n' zs l F j)) ∧ Hid (CalAt wr w.heap.size nm A A' n n' c c' cw) ∧ Hid (Below w.heap.size w wr)) (fun _ t _ _ _ _ => T + 1 - (intOf t).toNat)
      case atStart => exact ⟨0, 0, 0, _, rfl, Nat.zero_le _, rfl, by omega, Lib.hid (ownF_empty rfl KC.out.lt), Lib.hid (KC.out.call (alb' _ _)), Lib.hid (HB.out.alloc HB.out.size _)⟩
      case round =>
        clear KC HB
        obtain ⟨j, m, cc, X, rfl, hj, rfl, hm, HO, HC, HB⟩ := hrel
        obtain ⟨Y, hY⟩ : ∃ Y, F + j = Y := ⟨_, rfl⟩
        rw [hY]
        by_cases hlt : j ≤ N
        · have i1 : (Y : Int) ≤ (T : Int) := by have := HFN.out; omega
          have i3 : Y ≤ T := by omega
          have i4 : decide (Y ≤ T) = true := decide_eq_true i3
          have hst : allF ms rs n n' zs l F (j + 1) = allF ms rs n n' zs l F j ++ fY ms rs n' zs (placeY l n Y) Y n := by rw [← hY]; rfl
          have hmo := allF_mono ms rs n n' zs l F (j + 1) (N - j)
          rw [show j + 1 + (N - j) = N + 1 by omega] at hmo
          have HST := Lib.hid hst
          have HMO := Lib.hid hmo
          clear hst hmo
          have HY := Lib.hid hY
          clear hY
          go_wp2
          go_loopw [11, 13, 14, 15] (fun a t _ _ wr => ∃ (k m cc : Nat) (X : Option Addr), t = .int .i64 (k : Int) ∧ k ≤ n ∧ a = .slice X m cc ∧ m ≤ 40 ∧ Hid (OwnF wr (w.heap.size + 1) X m cc (allF ms rs n n' zs l F j ++ fY ms rs n' zs (placeY l n Y) Y k)) ∧ Hid (CalAt wr w.heap.size nm A A' n n' c c' cw) ∧ Hid (Below w.heap.size w wr)) (fun _ t _ _ _ => n - (intOf t).toNat)
          case atStart => exact ⟨0, m, cc, X, rfl, Nat.zero_le _, rfl, hm, Lib.hid (by rw [fY, List.append_nil]; exact HO.out), HC, HB⟩
          case round =>
            clear HO HC HB hm
            obtain ⟨k, m, cc, X, rfl, hk, rfl, hm, HO, HC, HB⟩ := hrel
            obtain ⟨zc, u0, u1, u2, u3⟩ := HC.out
            have k0 : (0 : Int) ≤ (k : Int) := by omega
            by_cases hlk : k < n
            · have i2 : (k : Int) < (n : Int) := by omega
              have cf := fun (W : World) (hC : CalAt W w.heap.size nm A A' n n' c c' cw) (hb : Below w.heap.size w W) => CF.out W hC hb Y k (by omega) hlk
              have hf1 := @fY_same ms rs n' zs (placeY l n Y) Y k
              have hf2 := @fY_more ms rs n' zs (placeY l n Y) Y k
              have hfm := fY_mono ms rs n' zs (placeY l n Y) Y (k + 1) (n - (k + 1))
              rw [show k + 1 + (n - (k + 1)) = n by omega] at hfm
              have HFM := Lib.hid hfm
              clear hfm
              generalize zs.getD (placeY l n Y + k) 0 = x at *
              generalize dayK ms rs n' (Y : Int) ((k : Int) + 1) = D at *
              by_cases hx : x = D
              · have HF := Lib.hid (hf1 hx)
                subst hx
                simp only [bne_self_eq_false] at cf
                have C2 := Lib.hid cf
                clear hf1 hf2 cf
                go_wp2_with fail
                go_at_call 53
                refine (C2.out _ HC.out HB.out).mono ?_
                rintro e1 w3 ⟨rfl, hb3⟩
                have HO' := Lib.hid (HO.out.call hb3)
                have HC' := Lib.hid (HC.out.call hb3)
                have HB' := Lib.hid (below_call HB.out hb3)
                clear hb3 zc u0 u1 u2 u3
                go_wp2
                go_roundw
                case rel => exact ⟨k + 1, m, cc, X, by go_num, by omega, rfl, hm, Lib.hid (by rw [HF.out]; exact HO'.out.call (alb' _ _)), Lib.hid (HC'.out.call (alb' _ _)), Lib.hid (HB'.out.alloc HB'.out.size _)⟩
                case measure => simp [intOf]; omega
              · have HF := Lib.hid (hf2 hx)
                have hx2 : (x != D) = true := by simpa using hx
                rw [hx2] at cf
                have C2 := Lib.hid cf
                clear hf1 hf2 cf
                by_cases hfull : 40 ≤ m
                · have hf2 : (40 : Int) ≤ (m : Int) := by omega
                  have HR := Lib.hid (show rCF nm n n' ms rs cw zs l (F : Int) (T : Int) = ([], 5) by rw [← HFN.out]; exact rCF_full HV.out V.out (by have h1 := HMO.out; have h2 := HO.out.len; have h3 := HFM.out; rw [HST.out, List.length_append] at h1; rw [HF.out, List.length_append] at h3; rw [List.length_append] at h2; simp at h3; omega))
                  go_wp2_with fail
                  go_at_call 53
                  refine (C2.out _ HC.out HB.out).mono ?_
                  rintro e1 w3 ⟨rfl, hb3⟩
                  have HB' := Lib.hid (below_call HB.out hb3)
                  clear hb3 zc u0 u1 u2 u3
                  go_wp2
                  go_ret2
                  rw [HR.out]
                  exact newFC_bad (HB'.out.alloc HB'.out.size _)
                · have hf2 : ¬ ((40 : Int) ≤ (m : Int)) := by omega
                  go_wp2_with fail
                  go_at_call 53
                  refine (C2.out _ HC.out HB.out).mono ?_
                  rintro e1 w3 ⟨rfl, hb3⟩
                  have HO' := Lib.hid (HO.out.call hb3)
                  have HC' := Lib.hid (HC.out.call hb3)
                  have HB' := Lib.hid (below_call HB.out hb3)
                  have hz3 := HC'.out.lt
                  clear hb3 zc u0 u1 u2 u3
                  go_wp2_with (first | (at_builtin; refine wpList_appF rfl _ _ rfl _ (w.heap.size + 1) X m cc _ [⟨(Y : Int), (k : Int) + 1, x, D⟩] rfl ((HO'.out.call (alb' _ _)).call (alb' _ _)) _ 1 1 rfl rfl (Nat.le_refl _) (by intro j u hj; match j, hj with | 0, hj => (simp [flatF, fT] at hj; subst hj; simp [go_sem]) | 1, hj => (simp [flatF, fT] at hj; subst hj; simp [go_sem]) | 2, hj => (simp [flatF, fT] at hj; subst hj; simp [go_sem]) | 3, hj => (simp [flatF, fT] at hj; subst hj; simp [go_sem])) (by omega) (by simp; omega) ?_; intro A2 c2 w4 ho4 hb4; have HO4 := Lib.hid ho4; have HB4 := Lib.hid (((HB'.out.alloc HB'.out.size _).alloc (by have := HB'.out.size; simp; omega) _).trans (hb4.mono (by omega))); have HC4 := Lib.hid (((HC'.out.call (alb' _ _)).call (alb' _ _)).below (by omega) hb4); clear ho4 hb4) | fail)
                  go_roundw
                  case rel => exact ⟨k + 1, m + 1, c2, A2, by go_num, by omega, rfl, by omega, Lib.hid (by rw [HF.out, ← List.append_assoc]; exact HO4.out), HC4, HB4⟩
                  case measure => simp [intOf]; omega
            · have i2 : ¬ ((k : Int) < (n : Int)) := by omega
              have hE : k = n := by omega
              have HE := Lib.hid hE
              clear hE
              have hY := HY.out
              go_wp2
              go_roundw
              case rel => exact ⟨j + 1, m, cc, X, by first | go_num | (congr 1; omega), by omega, rfl, hm, Lib.hid (by rw [HST.out]; have h9 := HO.out; rw [HE.out] at h9; exact h9), HC, HB⟩
              case measure => simp [intOf]; omega
        · have i1 : ¬ ((Y : Int) ≤ (T : Int)) := by have := HFN.out; omega
          have hE : j = N + 1 := by omega
          have HR := Lib.hid (show rCF nm n n' ms rs cw zs l (F : Int) (T : Int) = (allF ms rs n n' zs l F (N + 1), 0) by rw [← HFN.out]; exact rCF_ok HV.out V.out (by have h2 := HO.out.len; rw [hE] at h2; omega))
          have HE := Lib.hid hE
          clear hE
          go_wp2
          go_ret2
          rw [HR.out]
          exact ⟨X, m, cc, rfl, by rw [← HE.out]; exact HO.out.low (by omega), HB.out⟩
    · rw [rCF_far hv (by rw [v1, v2, decide_eq_false v3]; rfl)]
      have v4 : t < f := by omega
      clear hv k1 k2 k3 v1 v2
      go_enter Try.func16, Try.ntmps16
      go_wp2_with fail
      go_at_call 51
      refine (CA.out _ HC0.out BA.out).mono ?_
      rintro e1 w1 ⟨rfl, hb1⟩
      have KC := Lib.hid (HC0.out.call hb1)
      have HB := Lib.hid (BA.out.trans (hb1.mono BA.out.size))
      clear hb1
      go_wp2_with (first | (go_at_call 52; refine (l15Year_val _ _ _ (by first | exact Y1.out | exact Y2.out)).mono ?_; rintro e1 w' ⟨rfl, rfl⟩) | fail)
      go_ret2
      exact newFC_bad HB.out
  · rw [rCF_bad hv h0]
    have e0 : (v != 0) = true := by simpa using h0
    clear hv
    go_enter Try.func16, Try.ntmps16
    go_wp2_with fail
    go_at_call 51
    refine (CA.out _ HC0.out BA.out).mono ?_
    rintro e1 w1 ⟨rfl, hb1⟩
    have KC := Lib.hid (HC0.out.call hb1)
    have HB := Lib.hid (BA.out.trans (hb1.mono BA.out.size))
    clear hb1
    go_wp2
    go_ret2
    exact newFC_bad HB.out
end Go.Proofs.Ytbmiamfgdjiodaa
