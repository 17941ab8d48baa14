/- The draws of a count wheel that may be bent, with bounds of its numbers, and of a notch. No conditions but that the bytes lie apart from the source. -/
import Derived.Test.YtajcbppndkkbpaaGreatDoorDrawWheelB
namespace Go.Proofs.YtajcbppndkkbpaaGreatDoor
open Go.RowKit
set_option linter.unusedVariables false
set_option linter.unusedSimpArgs false
set_option maxRecDepth 8000
set_option maxHeartbeats 8000000 in
theorem l20Bent_bnd (A : Option Addr) (n c B g : Nat) (K : Int) (w : World) (h : Src w g A n c K) (hb : Byts w B A n) (hBg : B ≤ g) (hBw : B ≤ w.heap.size) (hn : n ≤ 4096) (hK : K ≤ 600000000) :
    Calls Tryz.prog 31 #[.pointer (some ⟨g, 0, none⟩)] w (DrawnRowB 0 w g A n c (K + 80)) := by
  have l0 := h.lt
  have HB0 := Lib.hid hb
  have HBY := Lib.hid (fun (W : World) (hg : w.grownBy W (some g)) => HB0.out.only hBw hg hBg)
  have H0 := Lib.hid (h.alloc (.cells #[.slice none 0 0] 26))
  have G0 := Lib.hid (only_alloc (World.grownBy.refl w (some g)) (.cells #[.slice none 0 0] 26))
  clear h hb
  go_enter Tryz.func31, Tryz.ntmps31
  go_wp2_with fail
  go_at_call 55
  refine (l20Draw_bnd A n c B g K _ H0.out (HBY.out _ G0.out) hBg (by simp; omega) hn (by omega)).mono ?_
  rintro e w1 ⟨L, m, d, zs, rfl, m0, m1, ho1, hs1, hq1, hz0⟩
  have z1 := hq1.size
  (try simp at z1)
  have x1 : w1.cell? ⟨w.heap.size, 0, none⟩ = some (.slice none 0 0) := hq1.cell (by simp [go_sem]) (by simp; omega)
  have f1 : ∀ o, w1.frozen? ⟨w.heap.size, o, none⟩ = false := frozen_only hq1 (by simp) (by omega) (fun o => by simp [go_sem])
  have C1 := Lib.hid (WhSt.new hs1 (G0.out.trans hq1) x1 f1 (ho1.low (b0 := w.heap.size + 1) (by simp)) (by omega) (by omega) 26)
  have hpw : w.heap.size < w1.heap.size := by omega
  clear hs1 hq1 x1 f1 ho1 z1
  go_wp2_with fail
  generalize hp : w1.heap.size = p at C1 hpw
  obtain ⟨s1, s2, s3, s4, s5, s6, s7, s8, s9, sa, sb⟩ := C1.out
  clear s1 s2 s7 s9 sa sb
  subst hp
  go_wp2_with fail
  go_at_call 36
  refine (pick_any A n c B g (K + 60) (m : Int) _ C1.out.1 (HBY.out _ C1.out.2.1) hBg hn (by omega) (by omega)).mono ?_
  rintro e w2 ⟨v, ⟨x, rfl, x0, x1⟩, rfl, hs2, hq2⟩
  have hx : x < m := by split at x1 <;> omega
  obtain ⟨x, rfl⟩ := Int.eq_ofNat_of_zero_le x0
  have hxm : x < m := by omega
  have C2 := Lib.hid (C1.out.draw l0 hs2 hq2)
  clear hs2 hq2 x1 C1 s3 s4 s5 s6 s8
  go_wp2_with fail
  go_at_call 36
  refine (pick_any A n c B g (K + 60 + 2) 30 _ C2.out.1 (HBY.out _ C2.out.2.1) hBg hn (by omega) (by omega)).mono ?_
  rintro e w4 ⟨v, ⟨u, rfl, u0, u1⟩, rfl, hs4, hq4⟩
  have C4 := Lib.hid (C2.out.draw l0 hs4 hq4)
  clear hs4 hq4 C2 u1
  have hpw2 : ¬ (w.heap.size = w1.heap.size) := by omega
  have hpw3 : ¬ (w1.heap.size = w.heap.size) := by omega
  obtain ⟨s1, s2, s3, s4, s5, s6, s7, s8, s9, sa, sb⟩ := C4.out
  have hcap := s7.cap
  rcases s7.form with ⟨_, hm0, _⟩ | ⟨gl, rfl, gl1, gl2⟩
  · omega
  have hglp : ¬ (gl = w1.heap.size) := s9 gl rfl
  have hglq : ¬ (w1.heap.size = gl) := fun e => hglp e.symm
  have hgl0 : ¬ (gl = w.heap.size) := by omega
  have hgl9 : ¬ (w.heap.size = gl) := by omega
  clear s1 s2 s7 s9 sa sb
  by_cases e0 : u = 0
  · subst e0
    have C40 := Lib.hid ((C4.out.alloc (.cells #[.int .i64 0, .int .i64 12, .int .i64 13] 2)).drew)
    have r1 : (0 : Int) ≤ (x : Int) := Int.natCast_nonneg _
    have r2 : (x : Int) < (m : Int) := by omega
    go_wp2
    go_region_with ((go_at_call 56; refine (among_any A _ n c B g 3 3 [0, 12, 13] (K + 60 + 2 + 2) _ C40.out.1 (HBY.out _ C40.out.2.1) hBg hn (by omega) ⟨rfl, fun _ => ⟨_, 0, rfl, by simp, fun j hj => by
        match j, hj with
        | 0, _ => simp
        | 1, _ => simp
        | 2, _ => simp⟩⟩ (by intro ad h; cases h; first | (simp; done) | (simp; omega)) (by omega) (by omega)).mono ?_; rintro e w5 ⟨v, ⟨y, rfl, hx⟩, rfl, hs5, hq5⟩; have hy : 0 ≤ y ∧ y ≤ 100 := (by simp at hx; omega); clear hx; have C5 := Lib.hid (C40.out.draw l0 hs5 hq5); obtain ⟨t1, t2, t3, t4, t5, t6, t7, t8, t9, ta, tb⟩ := C5.out; have tc := own_cell t7 hxm; have tf : w5.frozen? ⟨gl, x, none⟩ = false := World.ownsRow.frozenAt t7 x; clear t1 t2 t7))
    all_goals
      go_wp2
      (try simp only [Exit.inBlock, Exit.then])
      have C6 := Lib.hid (C5.out.setK (k := x) l0 y)
      refine bodyPost_ret (v := .agg #[.slice (some ⟨gl, 0, none⟩) m d]) ?_ rfl ?_
      · simp [results, Tryz.results31, go_sem, *]
      · exact C6.out.doneB (bz_set x hz0 hy.1 hy.2) l0 (by omega) (by omega) (by omega)
  have n0 : (u == 0) = false := by simpa using e0
  by_cases e1 : u = 1
  · subst e1
    go_wp2
    (try simp only [Exit.inBlock, Exit.then])
    have C5 := Lib.hid (C4.out.put l0 (Own.nil_ (base := w1.heap.size + 1)) notAt_nil (by omega))
    refine bodyPost_ret (v := .agg #[.slice none 0 0]) ?_ rfl ?_
    · simp [results, Tryz.results31, go_sem, *]
    · exact C5.out.doneB bz_nil l0 (by omega) (by omega) (by omega)
  have n1 : (u == 1) = false := by simpa using e1
  by_cases e2 : u = 2
  · subst e2
    have C5 := Lib.hid (C4.out.put l0 (Own.nil_ (base := w1.heap.size + 1)) notAt_nil (by omega))
    clear n0 n1 e0 e1
    go_wp2_with fail
    go_at_call 36
    refine (pick_any A n c B g (K + 60 + 2 + 2) 2 _ C5.out.1 (HBY.out _ C5.out.2.1) hBg hn (by omega) (by omega)).mono ?_
    rintro e w6 ⟨v, ⟨y, rfl, y0, y1⟩, rfl, hs6, hq6⟩
    have C6 := Lib.hid (C5.out.draw l0 hs6 hq6)
    rw [if_neg (by omega)] at y1
    obtain ⟨y, rfl⟩ := Int.eq_ofNat_of_zero_le y0
    obtain ⟨k0, hk0⟩ : ∃ k0, 24 + y = k0 := ⟨_, rfl⟩
    have k2 : k0 ≤ 25 := by omega
    clear hs6 hq6 C4 C5 s3 s4 s5 s6 s8 hcap gl1 gl2 hglp hxm hx
    go_wp2
    go_loopw [5] (fun t wr => ∃ (j m d : Nat) (L : Option Addr) (zs : List Int), t = .int .i64 (j : Int) ∧ m + j = k0 ∧ Hid (WhSt w wr g w1.heap.size (w1.heap.size + 1) A n c (K + 66) L m d zs) ∧ Bz zs) (fun t _ => (intOf t).toNat)
    case atStart => exact ⟨k0, 0, 0, none, [], by subst hk0; first | rfl | go_num | (push_cast; simp [Int.add_comm]; done) | (congr 1; omega), by omega, Lib.hid (C6.out.more (by omega)), bz_nil⟩
    case round =>
      clear C6 hk0 y1
      obtain ⟨j, m, d, L, zs, rfl, hmj, hC, hz⟩ := hrel
      obtain ⟨s1, s2, s3, s4, s5, s6, s7, s8, s9, sa, sb⟩ := hC.out
      have HO := Lib.hid s7
      have zr := s2.size
      clear s1 s2 s7 s9 sa sb
      by_cases hj : 0 < j
      · obtain ⟨i, rfl⟩ : ∃ i, j = i + 1 := ⟨j - 1, by omega⟩
        have hj2 : (0 : Int) < ((i + 1 : Nat) : Int) := by omega
        obtain ⟨r, hr⟩ : ∃ r, ((i : Int) + 1).tmod 7 = r := ⟨_, rfl⟩
        have hr2 : ((i : Int) + 1) % 7 = r := by rw [← hr, Int.tmod_eq_emod_of_nonneg (by omega)]
        have r0 : 0 ≤ r ∧ r ≤ 6 := by omega
        have rw1 : IntKind.i64.wrap r = r := IntWalk.i64_in _ (by omega)
        have rw2 : IntKind.i64.wrap (1 + r) = 1 + r := IntWalk.i64_in _ (by omega)
        clear hr2
        go_wp2_with (first | (at_builtin; refine wpList_app rfl _ _ rfl _ (w1.heap.size + 1) _ _ _ zs rfl (Own.alloc HO.out _) wr.heap.size rfl (1 + r) (by simp [*]) (by omega) (by simp; omega) ?_; intro L2 d2 w5 ho5 hb5; obtain ⟨c5, f5, c50, f50⟩ := hC.out.app0 hb5; have HB5 := Lib.hid hb5; have HO5 := Lib.hid ho5; clear hb5 ho5) | fail)
        have C5 := Lib.hid (WhSt.app hC.out l0 _ HB5.out HO5.out)
        clear s3 s4 s5 s6
        go_roundw
        case rel => exact ⟨i, m + 1, d2, L2, _, by first | rfl | go_num | (simp; done) | (congr 1; omega), by omega, C5, bz_snoc hz (by omega) (by omega)⟩
        case measure => first | (simp [intOf]; done) | (simp [intOf]; omega)
      · have hj0 : j = 0 := by omega
        subst hj0
        have hj2 : ¬ ((0 : Int) < ((0 : Nat) : Int)) := by omega
        go_wp2
        (try simp only [Exit.inBlock, Exit.then])
        refine bodyPost_ret (v := .agg #[.slice L m d]) ?_ rfl ?_
        · simp [results, Tryz.results31, go_sem, *]
        · exact hC.out.doneB hz l0 (by omega) (by omega) (by omega)
  have n2 : (u == 2) = false := by simpa using e2
  go_wp2
  (try simp only [Exit.inBlock, Exit.then])
  refine bodyPost_ret (v := .agg #[.slice (some ⟨gl, 0, none⟩) m d]) ?_ rfl ?_
  · simp [results, Tryz.results31, go_sem, *]
  · exact C4.out.doneB hz0 l0 (by omega) (by omega) (by omega)
set_option maxHeartbeats 4000000 in
theorem l20At_any (A L : Option Addr) (n c B g m d : Nat) (K : Int) (w : World) (h : Src w g A n c K) (hb : Byts w B A n) (hBg : B ≤ g) (hBw : B ≤ w.heap.size) (hn : n ≤ 4096) (hK : K ≤ 700000000) (hm : m ≤ 100) :
    Calls Tryz.prog 41 #[.pointer (some ⟨g, 0, none⟩), .agg #[.slice L m d]] w (Drawn (IntIn (-1) 100) w g A n c (K + 4)) := by
  have l0 := h.lt
  have HB0 := Lib.hid hb
  have HBY := Lib.hid (fun (W : World) (hg : w.grownBy W (some g)) => HB0.out.only hBw hg hBg)
  have H0 := Lib.hid (h.alloc (.cells #[.slice L m d] 26))
  have G0 := Lib.hid (only_alloc (World.grownBy.refl w (some g)) (.cells #[.slice L m d] 26))
  clear h hb
  go_enter Tryz.func41, Tryz.ntmps41
  go_wp2_with fail
  go_at_call 35
  refine (one_any A n c B g K 20 _ H0.out (HBY.out _ G0.out) hBg hn (by omega) (by omega)).mono ?_
  rintro e w1 ⟨v, ⟨b, rfl⟩, rfl, hs1, hq1⟩
  have z1 := hq1.size
  (try simp at z1)
  have x1 : w1.cell? ⟨w.heap.size, 0, none⟩ = some (.slice L m d) := hq1.cell (by simp [go_sem]) (by simp; omega)
  have S1 := Lib.hid hs1
  have G1 := Lib.hid (G0.out.trans hq1)
  clear hs1 hq1
  cases b
  · go_wp2_with fail
    go_at_call 36
    refine (pick_any A n c B g (K + 2) (m : Int) _ S1.out (HBY.out _ G1.out) hBg hn (by omega) (by omega)).mono ?_
    rintro e w2 ⟨v, ⟨x, rfl, x0, x1⟩, rfl, hs2, hq2⟩
    have HS := Lib.hid hs2
    have HG := Lib.hid (G1.out.trans hq2)
    have hx : x ≤ 100 := by split at x1 <;> omega
    clear hs2 hq2
    go_wp2
    go_ret
    exact ⟨_, ⟨x, rfl, by omega, hx⟩, rfl, HS.out.more (by omega), HG.out⟩
  · have S2 := Lib.hid (S1.out.alloc (.cells #[.int .i64 (-1), .int .i64 (m : Int)] 2))
    have G2 := Lib.hid (only_alloc G1.out (.cells #[.int .i64 (-1), .int .i64 (m : Int)] 2))
    have gw : g ≠ w1.heap.size := by omega
    go_wp2_with fail
    go_at_call 56
    refine (among_any A _ n c B g 2 2 [-1, (m : Int)] (K + 2) _ S2.out (HBY.out _ G2.out) hBg hn (by omega) ⟨rfl, fun _ => ⟨_, 0, rfl, by simp, fun j hj => by
        match j, hj with
        | 0, _ => simp
        | 1, _ => simp⟩⟩ (by intro ad h; cases h; simpa using gw.symm) (by omega) (by omega)).mono ?_
    rintro e w2 ⟨v, ⟨x, rfl, hx⟩, rfl, hs2, hq2⟩
    have HS := Lib.hid hs2
    have HG := Lib.hid (G2.out.trans hq2)
    have hx2 : -1 ≤ x ∧ x ≤ 100 := by simp at hx; omega
    clear hs2 hq2 hx
    go_wp2
    go_ret
    exact ⟨_, ⟨x, rfl, hx2.1, hx2.2⟩, rfl, HS.out.more (by omega), HG.out⟩
end Go.Proofs.YtajcbppndkkbpaaGreatDoor
