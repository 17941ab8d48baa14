/- The draw of a wheel, a notch and strikes that are expected. No conditions but that there are at most 4096 bytes. -/
import Derived.Test.YtlnoolnbpohjhaaDrawBent
import Derived.Test.YtlnoolnbpohjhaaLiSt
import Derived.Test.YtlnoolnbpohjhaaStrike
import Derived.BigQuiet
namespace Go.Proofs.Ytlnoolnbpohjhaa
open Go.RowKit
set_option linter.unusedVariables false
set_option linter.unusedSimpArgs false
/-- what the draw gives -/
def WrongOut (w : World) (e : Ending) (w' : World) : Prop := (∃ (L : Option Addr) (m d : Nat) (zs : List Int) (x : Int) (E : Option Addr) (k e' : Nat) (ys : List Int), e = .returned (.tuple #[.agg #[.slice L m d], .int .i64 x, .slice E k e']) ∧ m ≤ 100 ∧ k ≤ 600 ∧ Ints w' w'.heap.size L m zs ∧ Ints w' w'.heap.size E k ys) ∧ Below w.heap.size w w'
set_option maxHeartbeats 16000000 in
theorem DrawWrongStrikes_any (A : Option Addr) (n c : Nat) (w : World) (hb : Byts w w.heap.size A n) (hn : n ≤ 4096) :
    Calls Try.prog 9 #[.slice A n c] w (WrongOut w) := by
  have HB0 := Lib.hid hb
  clear hb
  go_enter Try.func9, Try.ntmps9
  go_wp2_with fail
  go_at_call 26
  refine (l00From_any A n c _).mono ?_
  rintro e w1 ⟨rfl, hs1, hb1⟩
  have xR0_1 : w1.cell? ⟨w.heap.size, 0, none⟩ = some (.slice none 0 0) := cell_call hb1 (by simp; try omega) (by simp [go_sem])
  have fR_1 : ∀ o, w1.frozen? ⟨w.heap.size, o, none⟩ = false := fun o => (hb1.frozen (by simp; try omega)).trans (by simp [go_sem])
  have yR_1 : w.heap.size < w1.heap.size := by have := hb1.size; (try simp at this); omega
  have S1 : Hid (Src w1 (w.heap.size + 1) A n c 0) := Lib.hid (by simpa using hs1)
  have l1 : w.heap.size + 1 < w1.heap.size := S1.out.lt
  have hBel1 : Below w.heap.size w w1 := by (repeat (first | with_reducible exact Below.refl _ _ | with_reducible refine below_alloc ?_ _ | with_reducible refine below_drewN ?_ _ | with_reducible refine Below.drew ?_ | ((with_reducible refine below_set ?_ ?_ _); rotate_left; (focus (first | (simp; done) | (simp; omega) | omega))) | with_reducible refine below_call ?_ (by assumption)))
  have HB1 := Lib.hid (HB0.out.below hBel1)
  have zz1 := hBel1.size
  have hg1 : w.grownBy w1 (some (w.heap.size + 1)) := only_of_below hBel1
  have hlo0 : w.heap.size < w.heap.size + 1 := by omega
  have hBg : w.heap.size ≤ w.heap.size + 1 := by omega
  have hBw : w.heap.size ≤ w.heap.size := Nat.le_refl _
  clear hs1 hb1 hBel1
  go_wp2_with fail
  generalize w.heap.size + 1 = g at *
  have hS1 := S1.out
  have hB1 := HB1.out
  go_wp2_with fail
  go_at_call 27
  refine (l20Bent_any A n c w.heap.size g 0 _ hS1 hB1 hBg (by omega) hn (by omega)).mono ?_
  rintro e w2 ⟨L, m, d, zs, rfl, ml, m0, ho2, hs2, hq2⟩
  have S2 := Lib.hid (Src.more (L := 0 + 80) hs2 (by omega))
  have l2 := hs2.lt
  have hg2 : w.grownBy w2 (some g) := by (repeat (first | with_reducible exact World.grownBy.refl _ _ | with_reducible refine only_alloc ?_ _ | with_reducible refine only_drewN ?_ _ | with_reducible refine only_drew ?_ | ((with_reducible refine only_setCell ?_ ?_ _); rotate_left; (focus (first | exact .inl rfl | (left; simp; done) | (right; simp; done) | (right; simp; omega)))) | with_reducible refine World.grownBy.trans ?_ (by assumption) | with_reducible refine only_below ?_ (by assumption)))
  have zz2 := hg2.size
  have zc2 := hq2.size
  have HB2 := Lib.hid (HB0.out.only (by omega) hg2 hBg)
  have xR0_2 : w2.cell? ⟨w.heap.size, 0, none⟩ = some (.slice none 0 0) := hq2.cell (by simp [go_sem, *]) (by simp; omega)
  have fR_2 : ∀ o, w2.frozen? ⟨w.heap.size, o, none⟩ = false := frozen_only hq2 (by omega) (by omega) (fun o => by simp [go_sem, *])
  have yR_2 : w.heap.size < w2.heap.size := by omega
  have O2 : Hid (Own w2 (g + 1) L m d zs) := Lib.hid (ho2.low (by omega))
  have hc2 : Hid (w2.grownBy w2 (some g)) := Lib.hid (World.grownBy.refl _ _)
  clear hS1 hB1 hs2 hq2 ho2 xR0_1 fR_1 yR_1
  have dRP : w.heap.size ≠ w2.heap.size := by omega
  have dPR : w2.heap.size ≠ w.heap.size := by omega
  have hS2 := S2.out
  have hB2 := HB2.out
  go_wp2_with fail
  go_at_call 28
  refine (l20At_any A L n c w.heap.size g m d (0 + 80) _ (by (repeat (first | with_reducible exact hS2 | with_reducible refine Src.alloc ?_ _ | with_reducible refine Src.drewN ?_ _ | ((with_reducible refine Src.set ?_ ?_ _); rotate_left; (focus (first | (simp; done) | (simp; omega))))))) (by (repeat (first | with_reducible exact hB2 | ((with_reducible refine Byts.alloc ?_ ?_ _); rotate_left; (focus (first | omega | (simp; done) | (simp; omega)))) | with_reducible refine Byts.drewN ?_ _ | ((with_reducible refine Byts.set ?_ ?_ _); rotate_left; (focus (first | omega | (simp; done) | (simp; omega))))))) hBg (by first | omega | (simp; omega)) hn (by omega) (by omega)).mono ?_
  rintro e w3 ⟨v, ⟨x, rfl, x0, x1⟩, rfl, hs3, hq3⟩
  have hc3 : Hid (w2.grownBy w3 (some g)) := Lib.hid (World.grownBy.trans (by have hcp := hc2.out; (repeat (first | with_reducible exact hcp | with_reducible refine only_alloc ?_ _ | with_reducible refine only_drewN ?_ _))) hq3)
  have S3 := Lib.hid (Src.more (L := 0 + 84) hs3 (by omega))
  have l3 := hs3.lt
  have hg3 : w.grownBy w3 (some g) := by (repeat (first | with_reducible exact World.grownBy.refl _ _ | with_reducible refine only_alloc ?_ _ | with_reducible refine only_drewN ?_ _ | with_reducible refine only_drew ?_ | ((with_reducible refine only_setCell ?_ ?_ _); rotate_left; (focus (first | exact .inl rfl | (left; simp; done) | (right; simp; done) | (right; simp; omega)))) | with_reducible refine World.grownBy.trans ?_ (by assumption) | with_reducible refine only_below ?_ (by assumption)))
  have zz3 := hg3.size
  have HB3 := Lib.hid (HB0.out.only (by omega) hg3 hBg)
  have xR0_3 : w3.cell? ⟨w.heap.size, 0, none⟩ = some (.slice none 0 0) := hq3.cell (by simp [go_sem, *]) (by first | omega | (simp; done) | (simp; omega))
  have fR_3 : ∀ o, w3.frozen? ⟨w.heap.size, o, none⟩ = false := frozen_only hq3 (by first | omega | (simp; done) | (simp; omega)) (by first | omega | (simp; done) | (simp; omega)) (fun o => by simp [go_sem, *])
  have yR_3 : w.heap.size < w3.heap.size := by have := hq3.size; (try simp at this); omega
  have xP0_3 : w3.cell? ⟨w2.heap.size, 0, none⟩ = some (.slice L m d) := hq3.cell (by simp [go_sem, *]) (by first | omega | (simp; done) | (simp; omega))
  have fP_3 : ∀ o, w3.frozen? ⟨w2.heap.size, o, none⟩ = false := frozen_only hq3 (by first | omega | (simp; done) | (simp; omega)) (by first | omega | (simp; done) | (simp; omega)) (fun o => by simp [go_sem, *])
  have yP_3 : w2.heap.size < w3.heap.size := by have := hq3.size; (try simp at this); omega
  clear hS2 hB2 hs3 hq3
  (try clear xR0_2 fR_2 yR_2)
  (try clear xP0_2 fP_2 yP_2)
  have C4 := Lib.hid (LiSt.new (w := w) S3.out hg3 xP0_3 fP_3 xR0_3 fR_3 (O2.out.only hc3.out (by omega)) (by omega) (by omega) yP_3 (Nat.le_refl _))
  obtain ⟨Q, hQ⟩ : ∃ Q, Q = w3.heap.size := ⟨_, rfl⟩
  have HQ := Lib.hid hQ
  have HBY := Lib.hid (fun (W : World) (hg : w.grownBy W (some g)) => HB0.out.only (Nat.le_refl _) hg hBg)
  clear hQ S3 hg3 zz3 HB3 xR0_3 fR_3 yR_3 xP0_3 fP_3 hc3 O2 S2 hg2 zc2 HB2 hc2
  go_wp2_with fail
  go_at_call 29
  refine (pick_any A n c w.heap.size g (0 + 84) 20 _ C4.out.1 (HBY.out _ C4.out.2.1) hBg hn (by omega) (by omega)).mono ?_
  rintro e w5 ⟨v, ⟨k0, rfl, k00, k01⟩, rfl, hs5, hq5⟩
  have C5 := Lib.hid (C4.out.draw hs5 hq5)
  rw [if_neg (by omega)] at k01
  obtain ⟨k0, rfl⟩ := Int.eq_ofNat_of_zero_le k00
  have k19 : k0 ≤ 19 := by omega
  clear hs5 hq5 C4 k00 k01
  go_wp2
  rw [← HQ.out] at C5
  go_loopw [8, 9] (fun l s wr => ∃ (j k e : Nat) (E : Option Addr) (ys : List Int), l = .slice E k e ∧ s = .int .i64 (j : Int) ∧ k + j = k0 ∧ Hid (LiSt w wr g w.heap.size w2.heap.size Q A n c (86 + 4 * (k : Int)) L m d zs E k e ys)) (fun _ s _ => (intOf s).toNat)
  case atStart => exact ⟨k0, 0, 0, _, _, by rw [HQ.out], rfl, by omega, Lib.hid (C5.out.more (by omega))⟩
  case round =>
    obtain ⟨j, k, e, E, ys, rfl, rfl, hkj, hC⟩ := hrel
    clear C5
    obtain ⟨b1, b2, b3, b4, b5, b6⟩ := hC.out.box
    by_cases hj : 0 < j
    · obtain ⟨i, rfl⟩ : ∃ i, j = i + 1 := ⟨j - 1, by omega⟩
      have hj2 : (0 : Int) < ((i + 1 : Nat) : Int) := by omega
      go_wp2_with fail
      go_at_call 29
      refine (pick_any A n c w.heap.size g (86 + 4 * (k : Int)) 4 _ hC.out.1 (HBY.out _ hC.out.2.1) hBg hn (by omega) (by omega)).mono ?_
      rintro e w6 ⟨v, ⟨y, rfl, y0, y1⟩, rfl, hs6, hq6⟩
      have C6 := Lib.hid (hC.out.draw hs6 hq6)
      rw [if_neg (by omega)] at y1
      have yw : IntKind.i64.wrap (1 + y) = 1 + y := IntWalk.i64_in _ (by omega)
      clear hs6 hq6 b1 b2 b3 b4 b5 b6
      go_wp2_with fail
      go_at_call 36
      refine (one_any A n c w.heap.size g (86 + 4 * (k : Int) + 2) 2 _ C6.out.1 (HBY.out _ C6.out.2.1) hBg hn (by omega) (by omega)).mono ?_
      rintro e w7 ⟨v, ⟨b, rfl⟩, rfl, hs7, hq7⟩
      have C7 := Lib.hid (C6.out.draw hs7 hq7)
      clear hs7 hq7 C6
      obtain ⟨b1, b2, b3, b4, b5, b6⟩ := C7.out.box
      cases b
      · skip
        have HO := Lib.hid C7.out.2.2.2.2.2.2.2.1
        have CN := C7
        go_wp2_with (first | (at_builtin; refine wpList_app rfl _ _ rfl _ Q _ _ _ ys rfl (Own.alloc HO.out _) w7.heap.size rfl (1 + y) (by simp [*]) (by omega) (by simp; omega) ?_; intro E2 e2 w9 ho9 hb9; have C9 := Lib.hid (LiSt.app1 CN.out _ hb9 ho9); clear ho9 hb9) | fail)
        go_roundw
        case rel => exact ⟨i, k + 1, e2, E2, _, rfl, by first | rfl | go_num | (simp; done) | (congr 1; omega), by omega, Lib.hid (C9.out.more (by push_cast; omega))⟩
        case measure => first | (simp [intOf]; done) | (simp [intOf]; omega)
      · skip
        have I7 := Lib.hid C7.out.2.2.2.2.2.2.1
        go_wp2_with fail
        go_at_call 33
        refine (l20Code_any L m d Q zs x _ I7.out (by omega) (by omega)).mono ?_
        rintro e w8 ⟨rfl, hb8⟩
        have C8 := Lib.hid (C7.out.call hb8)
        have hl := I7.out.len
        clear hb8 b1 b2 b3 b4 b5 b6 I7
        obtain ⟨b1, b2, b3, b4, b5, b6⟩ := C8.out.box
        have I8 := Lib.hid C8.out.2.2.2.2.2.2.1
        cases hv : vWheel zs
        · skip
          rw [code_bad hv]
          clear hv
          have HO := Lib.hid C8.out.2.2.2.2.2.2.2.1
          have CN := C8
          go_wp2_with (first | (at_builtin; refine wpList_app rfl _ _ rfl _ Q _ _ _ ys rfl (Own.alloc HO.out _) w8.heap.size rfl (1 + y) (by simp [*]) (by omega) (by simp; omega) ?_; intro E2 e2 w9 ho9 hb9; have C9 := Lib.hid (LiSt.app1 CN.out _ hb9 ho9); clear ho9 hb9) | fail)
          go_roundw
          case rel => exact ⟨i, k + 1, e2, E2, _, rfl, by first | rfl | go_num | (simp; done) | (congr 1; omega), by omega, Lib.hid (C9.out.more (by push_cast; omega))⟩
          case measure => first | (simp [intOf]; done) | (simp [intOf]; omega)
        · cases hi : inB x 0 ((m : Int) - 1)
          · skip
            rw [code_far hv hi]
            clear hv
            have HO := Lib.hid C8.out.2.2.2.2.2.2.2.1
            have CN := C8
            go_wp2_with (first | (at_builtin; refine wpList_app rfl _ _ rfl _ Q _ _ _ ys rfl (Own.alloc HO.out _) w8.heap.size rfl (1 + y) (by simp [*]) (by omega) (by simp; omega) ?_; intro E2 e2 w9 ho9 hb9; have C9 := Lib.hid (LiSt.app1 CN.out _ hb9 ho9); clear ho9 hb9) | fail)
            go_roundw
            case rel => exact ⟨i, k + 1, e2, E2, _, rfl, by first | rfl | go_num | (simp; done) | (congr 1; omega), by omega, Lib.hid (C9.out.more (by push_cast; omega))⟩
            case measure => first | (simp [intOf]; done) | (simp [intOf]; omega)
          · have hx := inB_yes hi
            have hxk : ∃ J : Nat, J < m ∧ (x + (k : Int)).tmod (m : Int) = (J : Int) := by
              obtain ⟨x, rfl⟩ := Int.eq_ofNat_of_zero_le hx.1
              exact ⟨(x + k) % m, Nat.mod_lt _ (by omega), by have := rem_i64 (x + k) m (by omega) (by omega) (by omega); simpa using this⟩
            obtain ⟨J, hJ, hJ2⟩ := hxk
            obtain ⟨bb, oo, rfl, hbb, hcc⟩ := I8.out.at_ hJ
            rw [code_ok hv hi]
            obtain ⟨zv, hzv⟩ : ∃ zv, zs.getD J 0 = zv := ⟨_, rfl⟩
            rw [hzv] at hcc
            have x1 : IntKind.i64.wrap (x + (k : Int)) = x + (k : Int) := IntWalk.i64_in _ (by omega)
            have x2 : IntKind.i64.wrap (J : Int) = (J : Int) := IntWalk.i64_in _ (by omega)
            have x3 : (0 : Int) ≤ (J : Int) := Int.natCast_nonneg _
            have x4 : (J : Int) < (m : Int) := by omega
            have x5 : ¬ ((m : Int) = 0) := by omega
            have x6 : ((m : Int) == 0) = false := by simpa using x5
            have x7 : ¬ (m = 0) := by omega
            have x8 : ¬ ((m : Int) = -1) := by omega
            have x9 : IntKind.i64.wrap ((x + (k : Int)).tmod (m : Int)) = (J : Int) := by rw [hJ2, x2]
            have xa : (m == 0) = false := by simpa using x7
            clear hv hi hzv hx
            go_wp2
            go_quiet (fail)
            have CD := Lib.hid (C8.out.drewN nq)
            clear b1 b2 b3 b4 b5 b6 C8 hcc I8
            generalize w8.drewN nq = wd at CD ⊢
            obtain ⟨b1, b2, b3, b4, b5, b6⟩ := CD.out.box
            have HO := Lib.hid CD.out.2.2.2.2.2.2.2.1
            have CN := CD
            go_wp2_with (first | (at_builtin; refine wpList_app rfl _ _ rfl _ Q _ _ _ ys rfl (Own.alloc HO.out _) wd.heap.size rfl (zv) (by simp [*]) (by omega) (by simp; omega) ?_; intro E2 e2 w9 ho9 hb9; have C9 := Lib.hid (LiSt.app1 CN.out _ hb9 ho9); clear ho9 hb9) | fail)
            go_roundw
            case rel => exact ⟨i, k + 1, e2, E2, _, rfl, by first | rfl | go_num | (simp; done) | (congr 1; omega), by omega, Lib.hid (C9.out.more (by push_cast; omega))⟩
            case measure => first | (simp [intOf]; done) | (simp [intOf]; omega)
    · have hj0 : j = 0 := by omega
      subst hj0
      have hj2 : ¬ ((0 : Int) < ((0 : Nat) : Int)) := by omega
      have hk9 : k ≤ 19 := by omega
      clear hkj
      go_wp2_with fail
      go_at_call 29
      refine (pick_any A n c w.heap.size g (86 + 4 * (k : Int)) 30 _ hC.out.1 (HBY.out _ hC.out.2.1) hBg hn (by omega) (by omega)).mono ?_
      rintro e9 w6 ⟨v, ⟨u, rfl, u0, u1⟩, rfl, hs6, hq6⟩
      have C6 := Lib.hid ((hC.out.draw hs6 hq6).more (K1 := 200) (by omega))
      clear hs6 hq6 b1 b2 b3 b4 b5 b6 u1
      obtain ⟨b1, b2, b3, b4, b5, b6⟩ := C6.out.box
      by_cases e0 : u = 0
      · subst e0
        have C60 := Lib.hid (C6.out.alloc (.cells #[.int .i64 0, .int .i64 12, .int .i64 13] 2))
        have gw : ¬ (g = w6.heap.size) := by omega
        go_wp2_with fail
        go_at_call 37
        refine (among_any A _ n c w.heap.size g 3 3 [0, 12, 13] 200 _ C60.out.1 (HBY.out _ C60.out.2.1) hBg hn (by omega) ⟨rfl, fun _ => ⟨_, 0, rfl, by simp, fun j hj => by
            match j, hj with
            | 0, _ => simp
            | 1, _ => simp
            | 2, _ => simp⟩⟩ (by intro ad h; cases h; simp; omega) (by omega) (by omega)).mono ?_
        rintro e8 w8 ⟨v, ⟨z, rfl, hz⟩, rfl, hs8, hq8⟩
        have C8 := Lib.hid (C60.out.draw hs8 hq8)
        clear hs8 hq8 hz b1 b2 b3 b4 b5 b6
        obtain ⟨b1, b2, b3, b4, b5, b6⟩ := C8.out.box
        have HO := Lib.hid C8.out.2.2.2.2.2.2.2.1
        go_wp2_with (first | (at_builtin; refine wpList_app rfl _ _ rfl _ Q _ _ _ ys rfl (Own.alloc HO.out _) w8.heap.size rfl z (by simp [*]) (by omega) (by simp; omega) ?_; intro E2 e2 w9 ho9 hb9; have C9 := Lib.hid (LiSt.app1 C8.out _ hb9 ho9); clear ho9 hb9 b1 b2 b3 b4 b5 b6; obtain ⟨c1, c2, c3, c4, c5, c6⟩ := C9.out.box) | fail)
        obtain ⟨c1, c2, c3, c4, c5, c6⟩ := C9.out.box
        have HD := Lib.hid C9.out.done
        go_wp2
        (try simp only [Exit.inBlock, Exit.then])
        refine bodyPost_ret (v := .tuple #[.agg #[.slice L m d], .int .i64 x, .slice (E2) (k + 1) (e2)]) ?_ rfl ⟨⟨L, m, d, zs, x, _, _, _, _, rfl, m0, by omega, HD.out.1, HD.out.2.1⟩, below_only (Below.refl _ _) HD.out.2.2 (Nat.le_refl _) hBg⟩
        simp [results, Try.results9, go_sem, *]
      · have n0 : (u == 0) = false := by simpa using e0
        by_cases e1 : u = 1
        · subst e1
          have C60 := Lib.hid (C6.out.app ((Below.refl _ _).alloc b6 _) (own_empty rfl b6))
          clear n0 e0
          go_wp2_with fail
          go_at_call 29
          refine (pick_any A n c w.heap.size g 200 2 _ C60.out.1 (HBY.out _ C60.out.2.1) hBg hn (by omega) (by omega)).mono ?_
          rintro e8 w8 ⟨v, ⟨y, rfl, y0, y1⟩, rfl, hs8, hq8⟩
          have C8 := Lib.hid (C60.out.draw hs8 hq8)
          rw [if_neg (by omega)] at y1
          obtain ⟨y, rfl⟩ := Int.eq_ofNat_of_zero_le y0
          obtain ⟨k1, hk1⟩ : ∃ k1, 500 + y = k1 := ⟨_, rfl⟩
          have k15 : k1 ≤ 501 := by omega
          clear hs8 hq8 C6 C60 hC b1 b2 b3 b4 b5 b6
          go_wp2
          go_loopw [8, 11] (fun l s wr => ∃ (j k e : Nat) (E : Option Addr) (ys : List Int), l = .slice E k e ∧ s = .int .i64 (j : Int) ∧ k + j = k1 ∧ Hid (LiSt w wr g w.heap.size w2.heap.size Q A n c 202 L m d zs E k e ys)) (fun _ s _ => (intOf s).toNat)
          case atStart => exact ⟨k1, 0, 0, _, _, rfl, by subst hk1; first | rfl | go_num | (push_cast; simp [Int.add_comm]; done) | (congr 1; omega), by omega, Lib.hid (C8.out.more (by omega))⟩
          case round =>
            obtain ⟨j, k, e, E, ys, rfl, rfl, hkj, hC⟩ := hrel
            clear C8 hk1 y1
            obtain ⟨b1, b2, b3, b4, b5, b6⟩ := hC.out.box
            have HO := Lib.hid hC.out.2.2.2.2.2.2.2.1
            by_cases hj : 0 < j
            · obtain ⟨i, rfl⟩ : ∃ i, j = i + 1 := ⟨j - 1, by omega⟩
              have hj2 : (0 : Int) < ((i + 1 : Nat) : Int) := by omega
              go_wp2_with (first | (at_builtin; refine wpList_app rfl _ _ rfl _ Q _ _ _ ys rfl (Own.alloc HO.out _) wr.heap.size rfl 1 (by simp [*]) (by omega) (by simp; omega) ?_; intro E2 e2 w9 ho9 hb9; have C9 := Lib.hid (LiSt.app1 hC.out _ hb9 ho9); clear ho9 hb9) | fail)
              go_roundw
              case rel => exact ⟨i, k + 1, e2, E2, _, rfl, by first | rfl | go_num | (simp; done) | (congr 1; omega), by omega, C9⟩
              case measure => first | (simp [intOf]; done) | (simp [intOf]; omega)
            · have hj0 : j = 0 := by omega
              subst hj0
              have hj2 : ¬ ((0 : Int) < ((0 : Nat) : Int)) := by omega
              clear b1 b2 b3 b4 b5 b6
              obtain ⟨c1, c2, c3, c4, c5, c6⟩ := hC.out.box
              obtain ⟨c1, c2, c3, c4, c5, c6⟩ := hC.out.box
              have HD := Lib.hid hC.out.done
              go_wp2
              (try simp only [Exit.inBlock, Exit.then])
              refine bodyPost_ret (v := .tuple #[.agg #[.slice L m d], .int .i64 x, .slice (E) (k) (e)]) ?_ rfl ⟨⟨L, m, d, zs, x, _, _, _, _, rfl, m0, by omega, HD.out.1, HD.out.2.1⟩, below_only (Below.refl _ _) HD.out.2.2 (Nat.le_refl _) hBg⟩
              simp [results, Try.results9, go_sem, *]
        · have n1 : (u == 1) = false := by simpa using e1
          obtain ⟨c1, c2, c3, c4, c5, c6⟩ := C6.out.box
          have HD := Lib.hid C6.out.done
          go_wp2
          (try simp only [Exit.inBlock, Exit.then])
          refine bodyPost_ret (v := .tuple #[.agg #[.slice L m d], .int .i64 x, .slice (E) (k) (e)]) ?_ rfl ⟨⟨L, m, d, zs, x, _, _, _, _, rfl, m0, by omega, HD.out.1, HD.out.2.1⟩, below_only (Below.refl _ _) HD.out.2.2 (Nat.le_refl _) hBg⟩
          simp [results, Try.results9, go_sem, *]
end Go.Proofs.Ytlnoolnbpohjhaa
