/- Contract of the reference's BestCam. No conditions but that there are at most 2^20 months and rules. -/
import Derived.Test.YthjldjbblaioaaaBest2
namespace Go.Proofs.Ythjldjbblaioaaa
open Go.RowKit
set_option linter.unusedVariables false
set_option linter.unusedSimpArgs false
set_option maxRecDepth 8000 in
set_option maxHeartbeats 4000000 in
theorem specBestCam_any (nm : ByteArray) (A A' : Option Addr) (n n' c c' B : Nat) (ms : List Mth) (rs : List Rul) (cw y : Int) (w : World) (h : Months w B A n ms) (h' : Rules w B A' n' rs) (hB : B ≤ w.heap.size) (hn : n ≤ 1048576) (hn' : n' ≤ 1048576) (hw : ∀ j, j < n' → -9223372036854775808 ≤ (rs.getD j r0).ev) :
    Calls Try.prog 15 #[.agg #[.string nm, .slice A n c, .slice A' n' c', .int .i64 cw], .int .i64 y] w (NewBC w (rBC nm n n' ms rs cw y)) := by
  have H := Lib.hid (Tri.more h hB)
  have H' := Lib.hid (Tri.more h' hB)
  have HC0 := Lib.hid (cal_new w 27 nm A A' n n' c c' cw)
  have BA := Lib.hid (alb' w (.cells #[.string nm, .slice A n c, .slice A' n' c', .int .i64 cw] 27))
  clear h h'
  have cO := fun (W : World) (hC : CalAt W w.heap.size nm A A' n n' c c' cw) (hb : Below w.heap.size w W) => l15Ok_any w.heap.size nm A A' n n' c c' w.heap.size ms rs cw W hC (Tri.below H.out hb) (Tri.below H'.out hb) hb.size (by omega) (by omega) hw
  clear hw
  cases hv : vCal nm n n' ms rs cw
  · rw [rBC_bad hv]
    rw [hv] at cO
    have CO := Lib.hid cO
    clear cO hv
    go_enter Try.func15, Try.ntmps15
    go_wp2_with fail
    go_at_call 49
    refine (CO.out _ HC0.out BA.out).mono ?_
    rintro e1 w1 ⟨rfl, hb1⟩
    have KC := Lib.hid (HC0.out.call hb1)
    have HB := Lib.hid (BA.out.trans (hb1.mono BA.out.size))
    clear hb1
    go_wp2
    go_ret3
    exact newBC_bad HB.out
  rw [hv] at cO
  have CO := Lib.hid cO
  obtain ⟨-, -, -, hmo, ⟨n1, n2⟩, -, -⟩ := vCal_yes hv
  have cY := fun (W : World) (hC : CalAt W w.heap.size nm A A' n n' c c' cw) => l17Years_any w.heap.size nm A A' n n' c c' cw y W hC n1 (by omega)
  cases hy : inB y 1 ((260 / n : Nat) : Int)
  · rw [rBC_far hv hy]
    rw [hy] at cY
    have CY := Lib.hid cY
    clear cO hv cY hy hmo
    go_enter Try.func15, Try.ntmps15
    go_wp2_with fail
    go_at_call 49
    refine (CO.out _ HC0.out BA.out).mono ?_
    rintro e1 w1 ⟨rfl, hb1⟩
    have KC := Lib.hid (HC0.out.call hb1)
    have HB := Lib.hid (BA.out.trans (hb1.mono BA.out.size))
    clear hb1
    go_wp2_with (first | (go_at_call 57; refine (CY.out _ KC.out).mono ?_; rintro e1 w2 ⟨rfl, hb2⟩; have HB2 := Lib.hid (below_call HB.out hb2); clear hb2) | fail)
    go_ret3
    exact newBC_bad HB2.out
  rw [hy] at cY
  have CY := Lib.hid cY
  have y1 := inB_yes hy
  obtain ⟨s, rfl⟩ := Int.eq_ofNat_of_zero_le (show 0 ≤ y by omega)
  have hs : 1 ≤ s := by omega
  have hsn : s * n ≤ 260 := (div_le_bd n1).mp (by omega)
  have hs2 : s ≤ 260 := Nat.le_trans (Nat.le_mul_of_pos_right s n1) hsn
  rw [rBC_ok hv hy]
  obtain ⟨hcv, hcl⟩ := camB_ok (rs := rs) (n' := n') hv hs hsn
  obtain ⟨cy, hcy, c1, c2⟩ := vCal_cyc hv
  obtain ⟨q, hq⟩ := comN_mul s (cycK rs n').toNat
  have hX : comN s (cycK rs n').toNat ≤ 520000 := by rw [hcy, Int.toNat_natCast]; exact comN_bd hs2 c2
  have hdv : s * n / n = s := Nat.mul_div_cancel s n1
  have hmd : s * n % n = 0 := Nat.mul_mod_left s n
  have hl1 : 1 ≤ s * n := Nat.le_trans (by omega) (Nat.mul_le_mul hs n1)
  have hcf : cntFaults ms rs n n' (camB ms rs n n' s) (s * n) = ((allF ms rs n n' (camB ms rs n n' s) (s * n) 0 (q * s)).length : Nat) := by unfold cntFaults; rw [hdv, hq]
  have hcb : camB ms rs n n' s = allB ms rs n n' s (q * s) s := by unfold camB; rw [hq]
  rw [hcf]
  rw [hcb] at hcl ⊢
  have CM := Lib.hid (fun (W : World) (hC : CalAt W w.heap.size nm A A' n n' c c' cw) (hb : Below w.heap.size w W) => (l17Common_any w.heap.size nm A A' n n' c c' w.heap.size ms rs cw s W hC (Tri.below H'.out hb) hb.size hn' hv hs hs2))
  rw [hq] at CM hX
  have CN := Lib.hid (fun (W : World) (hC : CalAt W w.heap.size nm A A' n n' c c' cw) (hb : Below w.heap.size w W) (p k : Nat) (hp : p < s) (hk : k < n) => l17Notch_any w.heap.size nm A A' n n' c c' w.heap.size ms rs cw p s q k W hC (Tri.below H.out hb) (Tri.below H'.out hb) hb.size hn' (vCal_ev hv) hp hs2 hX hk hn)
  have CK := Lib.hid (fun (W : World) (hC : CalAt W w.heap.size nm A A' n n' c c' cw) (hb : Below w.heap.size w W) (L : Option Addr) (e : Nat) (zs : List Int) (hI : Ints W W.heap.size L (s * n) zs) => l17Count_any w.heap.size nm A A' L n n' c c' (s * n) e W.heap.size ms rs cw zs (q * s) W hC (Tri.more (Tri.below H.out hb) hb.size) (Tri.more (Tri.below H'.out hb) hb.size) hI (Nat.le_refl _) n1 n2 hn' hl1 hsn hmd (vCal_ev hv) hX)
  have HCL := Lib.hid (fun j => allB_len ms rs n n' s (q * s) j)
  have HST := Lib.hid (fun j => (show allB ms rs n n' s (q * s) (j + 1) = allB ms rs n n' s (q * s) j ++ rowB ms (cnt (isL rs n') s j (q * s)) (cnt (fun y => !isL rs n' y) s j (q * s)) n from rfl))
  have HRT := Lib.hid (fun a b k => (show rowB ms a b (k + 1) = rowB ms a b k ++ [bestN a b (ms.getD k m0)] from rfl))
  obtain ⟨l, hln⟩ : ∃ l, s * n = l := ⟨_, rfl⟩
  have HLN := Lib.hid hln
  rw [hln] at hsn CK hl1 hcl ⊢
  obtain ⟨X, hX2⟩ : ∃ X, q * s = X := ⟨_, rfl⟩
  rw [hX2] at CM CN CK HCL HST hX ⊢
  clear cO hv cY hy hmo y1 hcv hcl hcy hq hdv hcf hcb hX2 hmd hln
  go_enter Try.func15, Try.ntmps15
  go_wp2_with fail
  go_at_call 49
  refine (CO.out _ HC0.out BA.out).mono ?_
  rintro e1 w1 ⟨rfl, hb1⟩
  have KC := Lib.hid (HC0.out.call hb1)
  have HB := Lib.hid (BA.out.trans (hb1.mono BA.out.size))
  clear hb1
  go_wp2_with fail
  go_at_call 57
  refine (CY.out _ KC.out).mono ?_
  rintro e1 w2 ⟨rfl, hb2⟩
  have HB2 := Lib.hid (below_call HB.out hb2)
  have KC2 := Lib.hid (KC.out.call hb2)
  clear hb2 KC HB
  go_wp2_with fail
  go_at_call 58
  refine (CM.out _ KC2.out HB2.out).mono ?_
  rintro e1 w3 ⟨rfl, hb3⟩
  have HB3 := Lib.hid (below_call HB2.out hb3)
  have KC3 := Lib.hid (KC2.out.call hb3)
  clear hb3 KC2 HB2
  go_wp2
  go_loopw [8, 9, 10] (fun a t _ wr => ∃ (j cc : Nat) (L : Option Addr), t = .int .i64 (j : Int) ∧ j ≤ s ∧ a = .slice L (j * n) cc ∧ Hid (Own wr (w.heap.size + 1) L (j * n) cc (allB ms rs n n' s X j)) ∧ Hid (CalAt wr w.heap.size nm A A' n n' c c' cw) ∧ Hid (Below w.heap.size w wr)) (fun _ t _ _ => s - (intOf t).toNat)
  case atStart => exact ⟨0, 0, _, rfl, Nat.zero_le _, by rw [Nat.zero_mul], Lib.hid (by rw [Nat.zero_mul]; exact own_empty rfl KC3.out.lt), Lib.hid (KC3.out.call (alb' _ _)), Lib.hid (HB3.out.alloc HB3.out.size _)⟩
  case round =>
    clear KC3 HB3
    obtain ⟨j, cc, L, rfl, hj, rfl, HO, HC, HB⟩ := hrel
    by_cases hlt : j < s
    · have i1 : (j : Int) < (s : Int) := by omega
      have hst := HST.out j
      have cn := fun (W : World) (hC : CalAt W w.heap.size nm A A' n n' c c' cw) (hb : Below w.heap.size w W) (k : Nat) (hk : k < n) => CN.out W hC hb j k hlt hk
      have hjn : (j + 1) * n = j * n + n := by rw [Nat.add_mul, Nat.one_mul]
      have hjb : j * n ≤ 260 := Nat.le_trans (Nat.mul_le_mul_right n (Nat.le_of_lt hlt)) (by rw [HLN.out]; exact hsn)
      have HJN := Lib.hid hjn
      clear hjn
      obtain ⟨Y, hY⟩ : ∃ Y, j * n = Y := ⟨_, rfl⟩
      rw [hY] at HJN hjb HO
      rw [hY]
      clear hY
      generalize cnt (isL rs n') s j X = F1 at *
      generalize cnt (fun y => !isL rs n' y) s j X = F2 at *
      have HST1 := Lib.hid hst
      have CN1 := Lib.hid cn
      clear hst cn
      go_wp2
      go_loopw [8, 10] (fun a t wr => ∃ (k m cc : Nat) (L : Option Addr), t = .int .i64 (k : Int) ∧ k ≤ n ∧ a = .slice L m cc ∧ Hid (m = Y + k) ∧ Hid (Own wr (w.heap.size + 1) L m cc (allB ms rs n n' s X j ++ rowB ms F1 F2 k)) ∧ Hid (CalAt wr w.heap.size nm A A' n n' c c' cw) ∧ Hid (Below w.heap.size w wr)) (fun _ t _ => n - (intOf t).toNat)
      case atStart => exact ⟨0, Y, cc, L, rfl, Nat.zero_le _, rfl, Lib.hid rfl, Lib.hid (by rw [rowB, List.append_nil]; exact HO.out), HC, HB⟩
      case round =>
        clear HO HC HB
        obtain ⟨k, m, cc, L, rfl, hk, rfl, hm, HO, HC, HB⟩ := hrel
        obtain ⟨zc, u0, u1, u2, u3⟩ := HC.out
        have k0 : (0 : Int) ≤ (k : Int) := by omega
        by_cases hlk : k < n
        · have i2 : (k : Int) < (n : Int) := by omega
          have cn := fun (W : World) (hC : CalAt W w.heap.size nm A A' n n' c c' cw) (hb : Below w.heap.size w W) => CN1.out W hC hb k hlk
          have hrt := HRT.out F1 F2 k
          generalize bestN F1 F2 (ms.getD k m0) = V at *
          have HRT1 := Lib.hid hrt
          have CN2 := Lib.hid cn
          clear hrt cn
          go_wp2_with fail
          go_at_call 59
          refine (CN2.out _ HC.out HB.out).mono ?_
          rintro e1 w4 ⟨rfl, hb4⟩
          have HO4 := Lib.hid (HO.out.call hb4)
          have HC4 := Lib.hid (HC.out.call hb4)
          have HB4 := Lib.hid (below_call HB.out hb4)
          have z4 := HC4.out.lt
          have hmb : m ≤ 10000000 := by have := hm.out; omega
          clear hb4 zc u0 u1 u2 u3
          go_wp2_with (first | (at_builtin; refine wpList_app rfl _ _ rfl _ (w.heap.size + 1) _ _ _ _ rfl (Own.alloc HO4.out _) w4.heap.size rfl V (by simp) (by omega) (by simp; omega) ?_; intro L5 c5 w5 ho5 hb5; have HO5 := Lib.hid ho5; have HC5 := Lib.hid ((HC4.out.call (alb' _ _)).below (by omega) hb5); have HB5 := Lib.hid ((HB4.out.alloc HB4.out.size _).trans (hb5.mono (by omega))); clear ho5 hb5) | fail)
          go_roundw
          case rel => exact ⟨k + 1, m + 1, c5, L5, by go_num, by omega, rfl, Lib.hid (by have := hm.out; omega), Lib.hid (by rw [HRT1.out, ← List.append_assoc]; exact HO5.out), HC5, HB5⟩
          case measure => simp [intOf]; omega
        · have i2 : ¬ ((k : Int) < (n : Int)) := by omega
          have hE : k = n := by omega
          subst hE
          have hm2 := hm.out
          subst hm2
          go_wp2
          go_roundw
          case rel => exact ⟨j + 1, cc, L, by go_num, by omega, by rw [HJN.out], Lib.hid (by rw [HJN.out, HST1.out]; exact HO.out), HC, HB⟩
          case measure => simp [intOf]; omega
    · have hE : j = s := by omega
      have hjl : j * n = l := by rw [hE]; exact HLN.out
      rw [hjl] at HO
      rw [hjl]
      have HE := Lib.hid hE
      clear hjl hE
      go_wp2_with fail
      go_at_call 60
      refine (CK.out _ HC.out HB.out _ _ _ (Own.ints (by rw [HE.out] at HO; exact HO.out) (Nat.le_refl _))).mono ?_
      rintro e1 w5 ⟨rfl, hb5⟩
      have HO5 := Lib.hid (HO.out.call hb5)
      rw [HE.out] at HO5
      have HB5 := Lib.hid (below_call HB.out hb5)
      clear hb5
      go_wp2
      go_ret3
      exact ⟨L, l, cc, rfl, HO5.out.low (by omega), HB5.out⟩
end Go.Proofs.Ythjldjbblaioaaa
