/- Contract of the reference's BestCam. No conditions but that there are at most 2^20 months and rules. -/
import Derived.Test.YthjldjbblaioaaaBest1
import Derived.Test.YthjldjbblaioaaaCamF2
namespace Go.Proofs.Ythjldjbblaioaaa
open Go.RowKit
set_option linter.unusedVariables false
set_option linter.unusedSimpArgs false
/-- a call gives a new cam, its number of faults and a code -/
def NewBC (w : World) (R : List Int × Int × Int) (e : Ending) (w' : World) : Prop := ∃ A m c, e = .returned (.tuple #[.slice A m c, .int .i64 R.2.1, .int .i64 R.2.2]) ∧ Own w' w.heap.size A m c R.1 ∧ Below w.heap.size w w'
theorem newBC_bad {w w' : World} {v : Int} (h : Below w.heap.size w w') : NewBC w ([], 0, v) (.returned (.tuple #[.slice none 0 0, .int .i64 0, .int .i64 v])) w' := ⟨none, 0, 0, rfl, Own.nil_, h⟩
theorem turn_lt {p s j q : Nat} (hp : p < s) : p + j * s < q * s ↔ j < q := by
  constructor
  · intro h
    rcases Nat.lt_or_ge j q with h2 | h2
    · exact h2
    · have := Nat.mul_le_mul_right s h2; omega
  · intro h
    have := Nat.mul_le_mul_right s (show j + 1 ≤ q from h)
    rw [Nat.add_mul, Nat.one_mul] at this; omega
set_option maxHeartbeats 400000 in
theorem l00Min_any (a b : Int) (w : World) : Calls Try.prog 112 #[.int .i64 a, .int .i64 b] w fun e w' => e = .returned (.int .i64 (if a < b then a else b)) ∧ w = w' := by
  by_cases h : a < b
  · rw [if_pos h]
    go_enter Try.func112, Try.ntmps112
    go_wp2
    go_ret
    exact ⟨rfl, rfl⟩
  · rw [if_neg h]
    go_enter Try.func112, Try.ntmps112
    go_wp2
    go_ret
    exact ⟨rfl, rfl⟩
theorem l00Min_val (a b v : Int) (h : (if a < b then a else b) = v) (w : World) : Calls Try.prog 112 #[.int .i64 a, .int .i64 b] w fun e w' => e = .returned (.int .i64 v) ∧ w = w' := by rw [← h]; exact l00Min_any a b w
set_option maxHeartbeats 4000000 in
theorem l17Notch_any (g : Nat) (nm : ByteArray) (A A' : Option Addr) (n n' c c' B : Nat) (ms : List Mth) (rs : List Rul) (cw : Int) (p s q k : Nat) (w : World) (hC : CalAt w g nm A A' n n' c c' cw) (h : Months w B A n ms) (h' : Rules w B A' n' rs) (hB : B ≤ w.heap.size) (hn' : n' ≤ 1048576) (hev : ∀ j, j < n' → 1 ≤ (rs.getD j r0).ev) (hp : p < s) (hs : s ≤ 260) (hq : q * s ≤ 520000) (hk : k < n) (hkn : n ≤ 1048576) :
    Calls Try.prog 59 #[.pointer (some ⟨g, 0, none⟩), .int .i64 (p : Int), .int .i64 (s : Int), .int .i64 ((q * s : Nat) : Int), .int .i64 (k : Int)] w fun e w' => e = .returned (.int .i64 (bestN (cnt (isL rs n') s p (q * s)) (cnt (fun y => !isL rs n' y) s p (q * s)) (ms.getD k m0))) ∧ Below w.heap.size w w' := by
  have H := Lib.hid (Tri.more h hB)
  have H' := Lib.hid (Tri.more h' hB)
  have HC := Lib.hid hC
  have HTL := Lib.hid (fun j => turn_lt (p := p) (s := s) (j := j) (q := q) hp)
  have HTW := Lib.hid (show cnt (isL rs n') s p (q * s) + cnt (fun y => !isL rs n' y) s p (q * s) = q by rw [← cnt_end _ hp q, ← cnt_end _ hp q]; exact cnt_two _ hp q)
  have HEN := Lib.hid (cnt_end (isL rs n') hp q)
  have HSY := Lib.hid (fun j => @cnt_step_yes (isL rs n') s p hp j)
  have HSN := Lib.hid (fun j => @cnt_step_no (isL rs n') s p hp j)
  have HZ := Lib.hid (cnt_zero (isL rs n') hp)
  have HLE := Lib.hid (fun Y => cnt_le (isL rs n') s p Y)
  have CL := Lib.hid (fun (W : World) (hb : Below w.heap.size w W) (Y : Nat) (hY : Y ≤ 1000000) => l15Leap_any g A' n' c' w.heap.size rs (Y : Int) W (Nat.lt_of_lt_of_le HC.out.lt hb.size) (HC.out.call hb).c2 (Tri.below H'.out hb) hb.size (by omega) hev (by omega) (by omega))
  obtain ⟨X, hX⟩ : ∃ X, q * s = X := ⟨_, rfl⟩
  rw [hX] at hq
  have HX := Lib.hid hX
  have hs1 : 1 ≤ s := by omega
  have hqX : q ≤ X := by rw [← hX]; exact Nat.le_mul_of_pos_right q hs1
  rw [hX] at HTL HTW HEN ⊢
  obtain ⟨V, hV⟩ : ∃ V, bestN (cnt (isL rs n') s p X) (cnt (fun y => !isL rs n' y) s p X) (ms.getD k m0) = V := ⟨_, rfl⟩
  rw [hV]
  have HVV := Lib.hid hV
  clear hV
  have i0 : (0 : Int) ≤ (k : Int) := Int.natCast_nonneg _
  clear h h' hC hev hX
  go_enter Try.func59, Try.ntmps59
  go_wp2
  go_loopw [11, 12, 13] (fun a b t wr => ∃ j : Nat, t = .int .i64 ((p + j * s : Nat) : Int) ∧ j ≤ q ∧ a = .int .i64 ((cnt (isL rs n') s p (p + j * s) : Nat) : Int) ∧ b = .int .i64 (j : Int) ∧ Hid (Below w.heap.size w wr)) (fun _ b _ _ => q - (intOf b).toNat)
  case atStart => exact ⟨0, by simp, Nat.zero_le _, by rw [HZ.out]; rfl, rfl, Lib.hid (Below.refl _ _)⟩
  case round =>
    obtain ⟨j, rfl, hj, rfl, rfl, HB⟩ := hrel
    have htl := HTL.out j
    have hsy := HSY.out j
    have hsn := HSN.out j
    have hle := HLE.out (p + j * s)
    have hnx : p + j * s + s = p + (j + 1) * s := by rw [Nat.add_mul, Nat.one_mul]; omega
    rw [← hnx] at hsy hsn
    have hil : isL rs n' (p + j * s) = leapK rs ((p + j * s : Nat) : Int) n' := rfl
    by_cases hlt : j < q
    · have hY0 := htl.mpr hlt
      have cl := CL.out wr HB.out (p + j * s) (by omega)
      rw [← hil] at cl
      have HNX := Lib.hid hnx
      clear htl hnx hil
      generalize p + j * s = Y at *
      have i1 : (Y : Int) < (X : Int) := by omega
      generalize cnt (isL rs n') s p Y = F1 at *
      cases hL : isL rs n' Y
      · have hx := Lib.hid (hsn hL)
        rw [hL] at cl
        have CL2 := Lib.hid cl
        clear cl hsy hsn hL
        go_wp2_with (first | (go_at_call 111; refine CL2.out.mono ?_; rintro e1 w3 ⟨rfl, hb3⟩; have HB3 := Lib.hid (below_call HB.out hb3); clear hb3) | fail)
        go_roundw
        case rel => exact ⟨j + 1, by rw [← HNX.out]; first | go_num | (push_cast; rfl), by omega, by rw [← HNX.out]; first | (congr 1; omega) | rw [hx.out], by go_num, HB3⟩
        case measure => simp [intOf]; omega
      · have hx := Lib.hid (hsy hL)
        rw [hL] at cl
        have CL2 := Lib.hid cl
        clear cl hsy hsn hL
        go_wp2_with (first | (go_at_call 111; refine CL2.out.mono ?_; rintro e1 w3 ⟨rfl, hb3⟩; have HB3 := Lib.hid (below_call HB.out hb3); clear hb3) | fail)
        go_roundw
        case rel => exact ⟨j + 1, by rw [← HNX.out]; first | go_num | (push_cast; rfl), by omega, by rw [← HNX.out]; first | rw [hx.out]; push_cast; rfl, by go_num, HB3⟩
        case measure => simp [intOf]; omega
    · have hE : j = q := by omega
      subst hE
      have hjX := HX.out
      have hx1 : ¬ (p + X < X) := by omega
      rw [hjX] at hle htl ⊢
      have hen := HEN.out
      have htw := HTW.out
      have zc := (HC.out.call HB.out).lt
      have u1 := (HC.out.call HB.out).c1
      obtain ⟨b, off, rfl, hbl, c1, c2, c3⟩ := Months.at_ (Tri.below H.out HB.out) hk
      obtain ⟨G, hG⟩ : ∃ G, cnt (fun y => !isL rs n' y) s p X = G := ⟨_, rfl⟩
      obtain ⟨F, hF⟩ : ∃ F, cnt (isL rs n') s p (p + X) = F := ⟨_, rfl⟩
      obtain ⟨m, hm⟩ : ∃ m, ms.getD k m0 = m := ⟨_, rfl⟩
      have HV := Lib.hid (fun v (h : bestN F G m = v) => (show v = V by rw [← HVV.out, hG, hm, ← hen, hF]; exact h.symm))
      rw [hm] at c1 c2 c3
      rw [← hen, hF, hG] at htw
      rw [hF]
      clear htl hsy hsn hnx hil hen
      rw [hF] at hle
      clear hF hG hm
      clear hjX
      generalize p + X = Y at *
      have i1 : ¬ ((Y : Int) < (X : Int)) := by omega
      have i2 : (k : Int) < (n : Int) := by omega
      have s1 : IntKind.i64.wrap (2 * (F : Int)) = 2 * (F : Int) := IntWalk.i64_in _ (by omega)
      rcases Nat.lt_trichotomy F G with hc | hc | hc
      · have HV2 := Lib.hid (HV.out _ (bestN_less (m := m) hc))
        have d1 : ¬ ((j : Int) < 2 * (F : Int)) := by omega
        have d2 : 2 * (F : Int) < (j : Int) := by omega
        go_wp2
        go_ret
        exact ⟨ret_int HV2.out, HB.out⟩
      · have d1 : ¬ ((j : Int) < 2 * (F : Int)) := by omega
        have d2 : ¬ (2 * (F : Int) < (j : Int)) := by omega
        by_cases hm : m.lp < m.dy
        · have HV2 := Lib.hid (HV.out _ (bestN_eq hc hm))
          have CMN := Lib.hid (fun W => l00Min_val m.lp m.dy _ (if_pos hm) W)
          go_wp2
          go_quiet ((go_at_call 112; exact quiet_left (CMN.out _)))
          go_wp2
          go_ret
          exact ⟨ret_int HV2.out, by have := HB.out; (repeat (first | with_reducible exact Below.refl _ _ | with_reducible refine below_alloc ?_ _ | with_reducible refine below_drewN ?_ _ | with_reducible refine Below.drew ?_ | ((with_reducible refine below_set ?_ ?_ _); rotate_left; (focus (first | (simp; done) | (simp; omega) | omega))) | with_reducible refine below_call ?_ (by assumption)))⟩
        · have HV2 := Lib.hid (HV.out _ (bestN_eq2 hc hm))
          have CMN := Lib.hid (fun W => l00Min_val m.lp m.dy _ (if_neg hm) W)
          go_wp2
          go_quiet ((go_at_call 112; exact quiet_left (CMN.out _)))
          go_wp2
          go_ret
          exact ⟨ret_int HV2.out, by have := HB.out; (repeat (first | with_reducible exact Below.refl _ _ | with_reducible refine below_alloc ?_ _ | with_reducible refine below_drewN ?_ _ | with_reducible refine Below.drew ?_ | ((with_reducible refine below_set ?_ ?_ _); rotate_left; (focus (first | (simp; done) | (simp; omega) | omega))) | with_reducible refine below_call ?_ (by assumption)))⟩
      · have HV2 := Lib.hid (HV.out _ (bestN_more (m := m) hc))
        have d1 : (j : Int) < 2 * (F : Int) := by omega
        go_wp2
        go_ret
        exact ⟨ret_int HV2.out, HB.out⟩
set_option maxRecDepth 8000 in
set_option maxHeartbeats 4000000 in
theorem l17Count_any (g : Nat) (nm : ByteArray) (A A' L : Option Addr) (n n' c c' l e B : Nat) (ms : List Mth) (rs : List Rul) (cw : Int) (zs : List Int) (X : Nat) (w : World) (hC : CalAt w g nm A A' n n' c c' cw) (h : Months w B A n ms) (h' : Rules w B A' n' rs) (hI : Ints w B L l zs) (hB : B ≤ w.heap.size) (hn1 : 1 ≤ n) (hn : n ≤ 20) (hn' : n' ≤ 1048576) (hl1 : 1 ≤ l) (hl : l ≤ 260) (k3 : l % n = 0) (hev : ∀ j, j < n' → 1 ≤ (rs.getD j r0).ev) (hX : X ≤ 520000) :
    Calls Try.prog 60 #[.pointer (some ⟨g, 0, none⟩), .slice L l e, .int .i64 (X : Int)] w fun e w' => e = .returned (.int .i64 ((allF ms rs n n' zs l 0 X).length : Nat)) ∧ Below w.heap.size w w' := by
  have H := Lib.hid (Tri.more h hB)
  have H' := Lib.hid (Tri.more h' hB)
  have HI := Lib.hid (hI.more hB)
  have HC := Lib.hid hC
  have CF := Lib.hid (fun (W : World) (hb : Below w.heap.size w W) (y k : Nat) (hy : y ≤ 1000000000) (hk : k < n) => l17Month_any g nm A A' L n n' c c' l e w.heap.size ms rs cw zs y k W (HC.out.call hb) (Tri.below H.out hb) (Tri.below H'.out hb) (Ints.below HI.out hb) hb.size hn1 hn hn' hl1 hl k3 hev hy hk)
  have HL := Lib.hid (fun j => allF_le ms rs n n' zs l 0 j)
  have HS := Lib.hid (fun j => (show (allF ms rs n n' zs l 0 (j + 1)).length = (allF ms rs n n' zs l 0 j).length + (fY ms rs n' zs (placeY l n j) j n).length by
    show (allF ms rs n n' zs l 0 j ++ fY ms rs n' zs (placeY l n (0 + j)) (0 + j) n).length = _
    rw [List.length_append, Nat.zero_add]))
  clear h h' hI hC hev
  go_enter Try.func60, Try.ntmps60
  go_wp2
  go_loopw [7, 8, 9, 10, 11] (fun a t _ _ _ wr => ∃ j : Nat, t = .int .i64 (j : Int) ∧ j ≤ X ∧ a = .int .i64 ((allF ms rs n n' zs l 0 j).length : Nat) ∧ Hid (Below w.heap.size w wr)) (fun _ t _ _ _ _ => X - (intOf t).toNat)
  case atStart => exact ⟨0, rfl, Nat.zero_le _, rfl, Lib.hid (Below.refl _ _)⟩
  case round =>
    obtain ⟨j, rfl, hj, rfl, HB⟩ := hrel
    by_cases hlt : j < X
    · have i1 : (j : Int) < (X : Int) := by omega
      have hs1 := HS.out j
      have hl1 := HL.out j
      have m1 : j * n ≤ 520000 * 20 := Nat.mul_le_mul (by omega) hn
      have hF : (allF ms rs n n' zs l 0 j).length ≤ 10400000 := by omega
      obtain ⟨F1, hF1⟩ : ∃ F1, (allF ms rs n n' zs l 0 j).length = F1 := ⟨_, rfl⟩
      rw [hF1] at hs1 hF
      rw [hF1]
      have HS1 := Lib.hid hs1
      clear hs1 hl1 m1 hF1
      go_wp2
      go_loopw [7, 9, 10, 11] (fun a t _ _ wr => ∃ k : Nat, t = .int .i64 (k : Int) ∧ k ≤ n ∧ a = .int .i64 ((F1 + (fY ms rs n' zs (placeY l n j) j k).length : Nat) : Int) ∧ Hid (Below w.heap.size w wr)) (fun _ t _ _ _ => n - (intOf t).toNat)
      case atStart => exact ⟨0, rfl, Nat.zero_le _, rfl, HB⟩
      case round =>
        clear HB
        obtain ⟨k, rfl, hk, rfl, HB⟩ := hrel
        obtain ⟨zc, u0, u1, u2, u3⟩ := HC.out.call HB.out
        have k0 : (0 : Int) ≤ (k : Int) := by omega
        by_cases hlk : k < n
        · have i2 : (k : Int) < (n : Int) := by omega
          have cf := CF.out wr HB.out j k (by omega) hlk
          have hf1 := @fY_same ms rs n' zs (placeY l n j) j k
          have hf2 := @fY_more ms rs n' zs (placeY l n j) j k
          have hfl := fY_len ms rs n' zs (placeY l n j) j k
          generalize zs.getD (placeY l n j + k) 0 = x at *
          generalize dayK ms rs n' (j : Int) ((k : Int) + 1) = D at *
          by_cases hx : x = D
          · have HF := Lib.hid (hf1 hx)
            subst hx
            simp only [bne_self_eq_false] at cf
            have C2 := Lib.hid cf
            clear hf1 hf2 cf
            go_wp2_with fail
            go_at_call 113
            refine C2.out.mono ?_
            rintro e1 w3 ⟨rfl, hb3⟩
            have HB' := Lib.hid (below_call HB.out hb3)
            clear hb3 zc u0 u1 u2 u3
            go_wp2
            go_roundw
            case rel => exact ⟨k + 1, by go_num, by omega, by rw [HF.out]; push_cast; rfl, Lib.hid (HB'.out.alloc HB'.out.size _)⟩
            case measure => simp [intOf]; omega
          · have hf3 := hf2 hx
            have hx2 : (x != D) = true := by simpa using hx
            rw [hx2] at cf
            have C2 := Lib.hid cf
            have hlen : (fY ms rs n' zs (placeY l n j) j (k + 1)).length = (fY ms rs n' zs (placeY l n j) j k).length + 1 := by rw [hf3, List.length_append]; rfl
            generalize (fY ms rs n' zs (placeY l n j) j k).length = G1 at *
            have HF := Lib.hid hlen
            clear hf1 hf2 hf3 cf hlen
            go_wp2_with fail
            go_at_call 113
            refine C2.out.mono ?_
            rintro e1 w3 ⟨rfl, hb3⟩
            have HB' := Lib.hid (below_call HB.out hb3)
            clear hb3 zc u0 u1 u2 u3
            go_wp2
            go_roundw
            case rel => exact ⟨k + 1, by go_num, by omega, by rw [HF.out]; first | go_num | (congr 1; push_cast; omega) | (congr 1; omega), Lib.hid (HB'.out.alloc HB'.out.size _)⟩
            case measure => simp [intOf]; omega
        · have hE : k = n := by omega
          subst hE
          go_wp2
          go_roundw
          case rel => exact ⟨j + 1, by go_num, by omega, by rw [HS1.out], HB⟩
          case measure => simp [intOf]; omega
    · have hE : j = X := by omega
      subst hE
      go_wp2
      go_ret
      exact ⟨rfl, HB.out⟩
end Go.Proofs.Ythjldjbblaioaaa
