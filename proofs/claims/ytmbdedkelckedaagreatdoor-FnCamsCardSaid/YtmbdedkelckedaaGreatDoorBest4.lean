/- Contract of the program's BestCam. No conditions but that there are at most 2^20 months and rules. -/
import Derived.Test.YtmbdedkelckedaaGreatDoorCore7
namespace Go.Proofs.YtmbdedkelckedaaGreatDoor
open Go.RowKit
set_option linter.unusedVariables false
set_option linter.unusedSimpArgs false
theorem made_row (W : World) {s lo : Nat} (h : lo ≤ W.heap.size) (hs : s ≤ 1048576) : Own (W.alloc (.cells (madeCells #[.int .i64 0] s) 2)) lo (some ⟨W.heap.size, 0, none⟩) s s (List.replicate s 0) := by
  unfold Own
  have e : (List.replicate s (0 : Int)).map (Value.int .i64) = (madeCells #[.int .i64 0] s).toList := by rw [toList_madeCells_one]; simp
  rw [e]
  exact World.ownsRow_lit W _ s h (by simp only [maxLen]; omega) (by rw [size_madeCells]; omega)
/-- the calendar's box and the two rows of counts -/
structure Two (w W : World) (nm : ByteArray) (A A' : Option Addr) (n n' c c' : Nat) (cw : Int) (g1 g2 s : Nat) (z1 z2 : List Int) : Prop where
  cal : CalAt W w.heap.size nm A A' n n' c c' cw
  bl : Below w.heap.size w W
  ne : g1 ≠ g2
  l1 : w.heap.size + 1 ≤ g1
  l2 : w.heap.size + 1 ≤ g2
  o1 : OwnIn W g1 (g1 + 1) (some ⟨g1, 0, none⟩) s s z1
  o2 : OwnIn W g2 (g2 + 1) (some ⟨g2, 0, none⟩) s s z2
  u1 : g1 < W.heap.size
  u2 : g2 < W.heap.size
section
variable {w W W' : World} {nm : ByteArray} {A A' : Option Addr} {n n' c c' g1 g2 s k : Nat} {cw v : Int} {z1 z2 : List Int}
theorem Two.call (h : Two w W nm A A' n n' c c' cw g1 g2 s z1 z2) (hb : Below W.heap.size W W') : Two w W' nm A A' n n' c c' cw g1 g2 s z1 z2 :=
  ⟨h.cal.call hb, h.bl.trans (hb.mono h.bl.size), h.ne, h.l1, h.l2, h.o1.call hb (by have := h.u1; omega), h.o2.call hb (by have := h.u2; omega), Nat.lt_of_lt_of_le h.u1 hb.size, Nat.lt_of_lt_of_le h.u2 hb.size⟩
theorem cnt_cell {g : Nat} {zs : List Int} (h : OwnIn W g (g + 1) (some ⟨g, 0, none⟩) s s zs) (hk : k < s) : W.cell? ⟨g, k, none⟩ = some (.int .i64 (zs.getD k 0)) := by
  have h1 := World.ownsRow.cellAt h.1 k (by omega)
  rw [h1, List.getElem?_map]
  have hl := h.len
  rw [List.getElem?_eq_getElem (by omega), getD_of (by omega)]; rfl
theorem Two.set1 (h : Two w W nm A A' n n' c c' cw g1 g2 s z1 z2) : Two w (W.setCell ⟨g1, k, none⟩ (.int .i64 v)) nm A A' n n' c c' cw g1 g2 s (z1.set k v) z2 := by
  have hst := World.ownsRow.stored h.o1.1 k (.int .i64 v)
  rw [← List.map_set] at hst
  have h1 := h.l1
  have hh := fun b (hb : b ≠ g1) => Below.heap_setCell W ⟨g1, k, none⟩ (.int .i64 v) b hb
  have hc : ∀ o, (W.setCell ⟨g1, k, none⟩ (.int .i64 v)).cell? ⟨w.heap.size, o, none⟩ = W.cell? ⟨w.heap.size, o, none⟩ := fun o => World.cell?_of_block (w := W) (hh _ (by show w.heap.size ≠ g1; omega))
  exact ⟨⟨by simpa [World.setCell] using h.cal.lt, (hc 0).trans h.cal.c0, (hc 1).trans h.cal.c1, (hc 2).trans h.cal.c2, (hc 3).trans h.cal.c3⟩, h.bl.setCell (by show w.heap.size ≤ g1; omega) _, h.ne, h.l1, h.l2, ⟨hst.1, h.o1.2⟩, h.o2.keep (fun b hb hb2 => hh b (by have := h.ne; omega)), by simpa [World.setCell] using h.u1, by simpa [World.setCell] using h.u2⟩
theorem Two.set2 (h : Two w W nm A A' n n' c c' cw g1 g2 s z1 z2) : Two w (W.setCell ⟨g2, k, none⟩ (.int .i64 v)) nm A A' n n' c c' cw g1 g2 s z1 (z2.set k v) := by
  have hst := World.ownsRow.stored h.o2.1 k (.int .i64 v)
  rw [← List.map_set] at hst
  have h1 := h.l2
  have hh := fun b (hb : b ≠ g2) => Below.heap_setCell W ⟨g2, k, none⟩ (.int .i64 v) b hb
  have hc : ∀ o, (W.setCell ⟨g2, k, none⟩ (.int .i64 v)).cell? ⟨w.heap.size, o, none⟩ = W.cell? ⟨w.heap.size, o, none⟩ := fun o => World.cell?_of_block (w := W) (hh _ (by show w.heap.size ≠ g2; omega))
  exact ⟨⟨by simpa [World.setCell] using h.cal.lt, (hc 0).trans h.cal.c0, (hc 1).trans h.cal.c1, (hc 2).trans h.cal.c2, (hc 3).trans h.cal.c3⟩, h.bl.setCell (by show w.heap.size ≤ g2; omega) _, h.ne, h.l1, h.l2, h.o1.keep (fun b hb hb2 => hh b (by have := h.ne; omega)), ⟨hst.1, h.o2.2⟩, by simpa [World.setCell] using h.u1, by simpa [World.setCell] using h.u2⟩
theorem two_new (hC : CalAt W w.heap.size nm A A' n n' c c' cw) (hb : Below w.heap.size w W) (hs : s ≤ 1048576) {V : World} (hV : V = (W.alloc (.cells (madeCells #[.int .i64 0] s) 2)).alloc (.cells (madeCells #[.int .i64 0] s) 2)) :
    Two w V nm A A' n n' c c' cw W.heap.size (W.heap.size + 1) s (List.replicate s 0) (List.replicate s 0) ∧ Two w V nm A A' n n' c c' cw (W.heap.size + 1) W.heap.size s (List.replicate s 0) (List.replicate s 0) := by
  subst hV
  have zw := hC.lt
  have r1 : Own ((W.alloc (.cells (madeCells #[.int .i64 0] s) 2)).alloc (.cells (madeCells #[.int .i64 0] s) 2)) W.heap.size (some ⟨W.heap.size, 0, none⟩) s s (List.replicate s 0) := Own.alloc (made_row W (Nat.le_refl _) hs) _
  have r2 : Own ((W.alloc (.cells (madeCells #[.int .i64 0] s) 2)).alloc (.cells (madeCells #[.int .i64 0] s) 2)) (W.heap.size + 1) (some ⟨W.heap.size + 1, 0, none⟩) s s (List.replicate s 0) := by
    have h := made_row (W.alloc (.cells (madeCells #[.int .i64 0] s) 2)) (s := s) (lo := W.heap.size + 1) (by simp) hs
    simpa using h
  have hC2 := (hC.call (alb' _ (.cells (madeCells #[.int .i64 0] s) 2))).call (alb' _ (.cells (madeCells #[.int .i64 0] s) 2))
  have hb2 := (hb.alloc hb.size (.cells (madeCells #[.int .i64 0] s) 2)).alloc (by simp; omega) (.cells (madeCells #[.int .i64 0] s) 2)
  exact ⟨⟨hC2, hb2, by omega, by omega, by omega, ⟨r1, fun ad e => by cases e; simp⟩, ⟨r2, fun ad e => by cases e; simp⟩, by simp; omega, by simp⟩, ⟨hC2, hb2, by omega, by omega, by omega, ⟨r2, fun ad e => by cases e; simp⟩, ⟨r1, fun ad e => by cases e; simp⟩, by simp, by simp; omega⟩⟩
end
set_option maxRecDepth 8000 in
set_option maxHeartbeats 8000000 in
theorem BestCam_any (nm : ByteArray) (A A' : Option Addr) (n n' c c' B : Nat) (ms : List Mth) (rs : List Rul) (cw y : Int) (w : World) (h : Months w B A n ms) (h' : Rules w B A' n' rs) (hB : B ≤ w.heap.size) (hn : n ≤ c) (hc : c ≤ 9223372036854775807) (hn' : n' ≤ 1048576) :
    Calls Tryz.prog 9 #[.agg #[.string nm, .slice A n c, .slice A' n' c', .int .i64 cw], .int .i64 y] w (NewBC w (rBC nm n n' ms rs cw y)) := by
  have H := Lib.hid (Tri.more h hB)
  have H' := Lib.hid (Tri.more h' hB)
  have HC0 := Lib.hid (cal_new w 27 nm A A' n n' c c' cw)
  have BA := Lib.hid (alb' w (.cells #[.string nm, .slice A n c, .slice A' n' c', .int .i64 cw] 27))
  clear h h'
  have cO := fun (W : World) (hb : Below w.heap.size w W) => ValidCalendar_any nm A A' n n' c c' w.heap.size ms rs cw W (Tri.below H.out hb) (Tri.below H'.out hb) hb.size hn (by omega) (by omega)
  cases hv : vCal nm n n' ms rs cw
  · rw [rBC_bad hv]
    rw [hv] at cO
    have CO := Lib.hid cO
    clear cO hv
    go_enter Tryz.func9, Tryz.ntmps9
    go_wp2_with fail
    go_at_call 30
    refine (CO.out _ BA.out).mono ?_
    rintro e1 w1 ⟨rfl, hb1⟩
    have KC := Lib.hid (HC0.out.call hb1)
    have HB := Lib.hid (BA.out.trans (hb1.mono BA.out.size))
    clear hb1
    obtain ⟨zc, u0, u1, u2, u3⟩ := KC.out
    go_wp2
    go_ret3
    exact newBC_bad HB.out
  rw [hv] at cO
  have CO := Lib.hid cO
  obtain ⟨-, -, -, hmo, ⟨n1, n2⟩, -, -⟩ := vCal_yes hv
  have cY := fun (W : World) => notched_any nm A A' n n' c c' cw y W n1 (by omega)
  cases hy : inB y 1 ((260 / n : Nat) : Int)
  · rw [rBC_far hv hy]
    rw [hy] at cY
    have CY := Lib.hid cY
    clear cO hv cY hy hmo
    go_enter Tryz.func9, Tryz.ntmps9
    go_wp2_with fail
    go_at_call 30
    refine (CO.out _ BA.out).mono ?_
    rintro e1 w1 ⟨rfl, hb1⟩
    have KC := Lib.hid (HC0.out.call hb1)
    have HB := Lib.hid (BA.out.trans (hb1.mono BA.out.size))
    clear hb1
    obtain ⟨zc, u0, u1, u2, u3⟩ := KC.out
    go_wp2_with fail
    go_at_call 31
    refine (CY.out _).mono ?_
    rintro e1 w2 ⟨rfl, hb2⟩
    have HB2 := Lib.hid (below_call HB.out hb2)
    have KC2 := Lib.hid (KC.out.call hb2)
    clear hb2 KC HB zc u0 u1 u2 u3
    obtain ⟨zc, u0, u1, u2, u3⟩ := KC2.out
    go_wp2
    go_ret3
    exact newBC_bad HB2.out
  rw [hy] at cY
  have CY := Lib.hid cY
  have y1 := inB_yes hy
  obtain ⟨s, rfl⟩ := Int.eq_ofNat_of_zero_le (show 0 ≤ y by omega)
  have hs : 1 ≤ s := by omega
  have hsn : s * n ≤ 260 := (div_le_bd n1).mp (by omega)
  have hs2 : s ≤ 260 := Nat.le_trans (Nat.le_mul_of_pos_right s n1) hsn
  rw [rBC_ok hv hy]
  obtain ⟨hcv, hcl⟩ := camB_ok (rs := rs) (n' := n') hv hs hsn
  obtain ⟨cy, hcy, c1, c2⟩ := vCal_cyc hv
  obtain ⟨g1, g2, g3⟩ := gcd_facts (k := s) (cy := cy) hs hs2 c2
  have hX : comN s cy ≤ 520000 := comN_bd hs2 c2
  have hmd : s * n % n = 0 := Nat.mul_mod_left s n
  have hl1 : 1 ≤ s * n := Nat.le_trans (by omega) (Nat.mul_le_mul hs n1)
  have hcb : camB ms rs n n' s = allB ms rs n n' s (comN s cy) s := by unfold camB; rw [hcy, Int.toNat_natCast]
  rw [hcb] at hcl ⊢
  have t1 : (s : Int).tdiv ((Nat.gcd s cy : Nat) : Int) = ((s / Nat.gcd s cy : Nat) : Int) := nat_tdiv _ _
  have t2 : (s : Int) / ((Nat.gcd s cy : Nat) : Int) = ((s / Nat.gcd s cy : Nat) : Int) := (Int.natCast_ediv _ _).symm
  have hQX : ((s / Nat.gcd s cy : Nat) : Int) * (cy : Int) = ((comN s cy : Nat) : Int) := by unfold comN; push_cast; rfl
  have CG := Lib.hid (fun (W : World) => (show Calls Tryz.prog 38 #[.int .i64 (s : Int), .int .i64 (cy : Int)] W fun e w' => e = .returned (.int .i64 ((Nat.gcd s cy : Nat) : Int)) ∧ ∃ k, w' = W.drewN k by rw [← gcd_nat]; exact gcd_any _ _ W (by omega) (by omega)))
  have cC := fun (W : World) (hb : Below w.heap.size w W) => cycleYears_any A' n' c' w.heap.size rs W (Tri.below H'.out hb) hb.size (by omega) (vCal_evs hv)
  rw [hcy] at cC
  have CC := Lib.hid cC
  have CL := Lib.hid (fun (W : World) (hb : Below w.heap.size w W) (Y : Nat) (hY : Y ≤ 1000000) => (show Calls Tryz.prog 33 #[.agg #[.string nm, .slice A n c, .slice A' n' c', .int .i64 cw], .int .i64 (Y : Int)] W fun e w' => e = .returned (.bool (isL rs n' Y)) ∧ Below W.heap.size W w' from isLeap_any nm A A' n n' c c' w.heap.size rs cw (Y : Int) W (Tri.below H'.out hb) hb.size (by omega) (vCal_ev hv) (by omega) (by omega)))
  have CK := Lib.hid (fun (W : World) (hb : Below w.heap.size w W) (L : Option Addr) (e : Nat) (zs : List Int) (hI : Ints W W.heap.size L (s * n) zs) (he : s * n ≤ e) (he2 : e ≤ 9223372036854775807) => faultCount_any nm A A' L n n' c c' (s * n) e W.heap.size ms rs cw zs W (Tri.more (Tri.below H.out hb) hb.size) (Tri.more (Tri.below H'.out hb) hb.size) hI (Nat.le_refl _) hn' hl1 hsn he he2 hmd hv)
  have HST := Lib.hid (fun j => (show allB ms rs n n' s (comN s cy) (j + 1) = allB ms rs n n' s (comN s cy) j ++ rowB ms (cnt (isL rs n') s j (comN s cy)) (cnt (fun y => !isL rs n' y) s j (comN s cy)) n from rfl))
  have HRT := Lib.hid (fun a b k => (show rowB ms a b (k + 1) = rowB ms a b k ++ [bestN a b (ms.getD k m0)] from rfl))
  have HMK := Lib.hid (fun (W : World) => (show (Instr.makeSlice 28 (.int .i64 (s : Int)) (.int .i64 (s : Int))).run Tryz.prog W = .ok (.slice (some ⟨W.heap.size, 0, none⟩) s s) (W.alloc (.cells (madeCells #[.int .i64 0] s) 2)) by
    obtain ⟨i0, hi, hz0, hz1, hz2⟩ := info_parts info_int64
    have h9 := run_make (P := Tryz.prog) W 28 2 i0 (.int .i64 0) Tryz.underlying28 hi hz0 .i64 .i64 (s : Int) (s : Int) (by omega) (Int.le_refl _) (by rw [hz2]; omega) (by omega)
    rw [h9, hz1]
    simp [Value.cells]))
  obtain ⟨l, hln⟩ : ∃ l, s * n = l := ⟨_, rfl⟩
  have HLN := Lib.hid hln
  rw [hln] at hsn CK hl1 hcl ⊢
  generalize comN s cy = X at *
  generalize hG : Nat.gcd s cy = G at *
  generalize hQ : s / G = Q at *
  have e0 : ¬ ((G : Int) = 0) := by omega
  have e1 : ((G : Int) == 0) = false := by rw [beq_eq_false_iff_ne]; omega
  have e2 : ¬ (G = 0) := by omega
  have r1 : IntKind.i64.wrap (Q : Int) = (Q : Int) := IntWalk.i64_in _ (by omega)
  have r2 : IntKind.i64.wrap ((Q : Int) * (cy : Int)) = (X : Int) := by rw [hQX]; exact IntWalk.i64_in _ (by omega)
  have r3 : IntKind.i64.wrap (X : Int) = (X : Int) := IntWalk.i64_in _ (by omega)
  have s0 : ¬ ((s : Int) = 0) := by omega
  have s1 : ((s : Int) == 0) = false := by rw [beq_eq_false_iff_ne]; omega
  have s2 : ¬ (s = 0) := by omega
  clear cO hv cY hy hmo y1 hcv hcl hcy hcb hmd hln cC hG hQ
  go_enter Tryz.func9, Tryz.ntmps9
  go_wp2_with fail
  go_at_call 30
  refine (CO.out _ BA.out).mono ?_
  rintro e1 w1 ⟨rfl, hb1⟩
  have KC := Lib.hid (HC0.out.call hb1)
  have HB := Lib.hid (BA.out.trans (hb1.mono BA.out.size))
  clear hb1
  obtain ⟨zc, u0, u1, u2, u3⟩ := KC.out
  go_wp2_with fail
  go_at_call 31
  refine (CY.out _).mono ?_
  rintro e1 w2 ⟨rfl, hb2⟩
  have HB2 := Lib.hid (below_call HB.out hb2)
  have KC2 := Lib.hid (KC.out.call hb2)
  clear hb2 KC HB zc u0 u1 u2 u3
  obtain ⟨zc, u0, u1, u2, u3⟩ := KC2.out
  go_wp2_with fail
  go_at_call 37
  refine (CC.out _ HB2.out).mono ?_
  rintro e1 w3 ⟨rfl, hb3⟩
  have HB3 := Lib.hid (below_call HB2.out hb3)
  have KC3 := Lib.hid (KC2.out.call hb3)
  clear hb3 KC2 HB2 zc u0 u1 u2 u3
  go_wp2_with fail
  go_at_call 38
  refine (CG.out _).mono ?_
  rintro e1 w4 ⟨rfl, kk, rfl⟩
  have HB4 : Hid (Below w.heap.size w (w3.drewN kk)) := Lib.hid (below_drewN HB3.out _)
  have KC4 : Hid (CalAt (w3.drewN kk) w.heap.size nm A A' n n' c c' cw) := Lib.hid (KC3.out.call (below_drewN (Below.refl _ _) _))
  obtain ⟨W5, hW5⟩ : ∃ W, w3.drewN kk = W := ⟨_, rfl⟩
  rw [hW5] at HB4 KC4 ⊢
  clear hW5 HB3 KC3
  go_upto_region 7 with fail
  go_cut [9, 10] (fun a b wx => ∃ g1 g2, a = .slice (some ⟨g1, 0, none⟩) s s ∧ b = .slice (some ⟨g2, 0, none⟩) s s ∧ Hid (Two w wx nm A A' n n' c c' cw g1 g2 s (cntR (isL rs n') s 0) (cntR (fun y => !isL rs n' y) s 0)))
  case first =>
    have hmk := HMK.out
    go_region
    all_goals
      go_wp2_with fail
      go_meet
      first
        | exact ⟨_, _, rfl, rfl, Lib.hid (by rw [cntR_none, cntR_none]; exact (two_new (s := s) KC4.out HB4.out (by omega) rfl).1.call (Below.drew (Below.refl _ _)))⟩
        | exact ⟨_, _, rfl, rfl, Lib.hid (by rw [cntR_none, cntR_none]; exact (two_new (s := s) KC4.out HB4.out (by omega) rfl).2.call (Below.drew (Below.refl _ _)))⟩
  case rest =>
    obtain ⟨g1, g2, rfl, rfl, HT⟩ := hcut
    clear HB4 KC4
    go_wp2
    go_loopw [11] (fun t wr => ∃ j : Nat, t = .int .i64 (j : Int) ∧ j ≤ X ∧ Hid (Two w wr nm A A' n n' c c' cw g1 g2 s (cntR (isL rs n') s j) (cntR (fun y => !isL rs n' y) s j))) (fun t _ => X - (intOf t).toNat)
    case atStart => exact ⟨0, rfl, Nat.zero_le _, HT⟩
    case round =>
      clear HT
      obtain ⟨j, rfl, hj, HT⟩ := hrel
      by_cases hlt : j < X
      · have i1 : (j : Int) < (X : Int) := by omega
        have i0 : (0 : Int) ≤ (j : Int) := by omega
        obtain ⟨zc, u0, u1, u2, u3⟩ := HT.out.cal
        have cl := CL.out wr HT.out.bl j (by omega)
        have hR := Nat.mod_lt j (show 0 < s by omega)
        have t5 : (j : Int).tmod (s : Int) = ((j % s : Nat) : Int) := nat_tmod j s
        have t6 : (j : Int) % (s : Int) = ((j % s : Nat) : Int) := (Int.natCast_emod j s).symm
        have hh1 := @cntR_hit (isL rs n') s j hs
        have hh2 := @cntR_hit (fun y => !isL rs n' y) s j hs
        have hm1 := @cntR_miss (isL rs n') s j
        have hm2 := @cntR_miss (fun y => !isL rs n' y) s j
        have hg1 := @cntR_getD (isL rs n') s j (j % s) hR
        have hg2 := @cntR_getD (fun y => !isL rs n' y) s j (j % s) hR
        have hb1 := cnt_le (isL rs n') s (j % s) j
        have hb2 := cnt_le (fun y => !isL rs n' y) s (j % s) j
        generalize j % s = R at *
        have w1 : IntKind.i64.wrap (R : Int) = (R : Int) := IntWalk.i64_in _ (by omega)
        have i5 : (R : Int) < (s : Int) := by omega
        have i6 : (0 : Int) ≤ (R : Int) := by omega
        generalize cnt (isL rs n') s R j = F1 at *
        generalize cnt (fun y => !isL rs n' y) s R j = F2 at *
        cases hL : isL rs n' j
        · rw [hL] at cl
          have HZ1 := Lib.hid (hm1 hL)
          have HZ2 := Lib.hid (hh2 (by simp [hL]))
          have HG2 := Lib.hid hg2
          have CL2 := Lib.hid cl
          clear cl hL hh1 hh2 hm1 hm2 hg1 hg2
          go_wp2_with fail
          go_at_call 33
          refine CL2.out.mono ?_
          rintro e1 w6 ⟨rfl, hb6⟩
          have HT6 := Lib.hid (HT.out.call hb6)
          have k1 := cnt_cell HT6.out.o2 hR
          rw [HG2.out] at k1
          have k2 := World.ownsRow.frozenAt HT6.out.o2.1 R
          clear hb6 zc u0 u1 u2 u3
          go_wp2
          go_roundw
          case rel => exact ⟨j + 1, by go_num, by omega, Lib.hid (by rw [HZ1.out, ← HZ2.out]; exact HT6.out.set2)⟩
          case measure => simp [intOf]; omega
        · rw [hL] at cl
          have HZ1 := Lib.hid (hh1 hL)
          have HZ2 := Lib.hid (hm2 (by simp [hL]))
          have HG1 := Lib.hid hg1
          have CL2 := Lib.hid cl
          clear cl hL hh1 hh2 hm1 hm2 hg1 hg2
          go_wp2_with fail
          go_at_call 33
          refine CL2.out.mono ?_
          rintro e1 w6 ⟨rfl, hb6⟩
          have HT6 := Lib.hid (HT.out.call hb6)
          have k1 := cnt_cell HT6.out.o1 hR
          rw [HG1.out] at k1
          have k2 := World.ownsRow.frozenAt HT6.out.o1.1 R
          clear hb6 zc u0 u1 u2 u3
          go_wp2
          go_roundw
          case rel => exact ⟨j + 1, by go_num, by omega, Lib.hid (by rw [← HZ1.out, HZ2.out]; exact HT6.out.set1)⟩
          case measure => simp [intOf]; omega
      · have hE : X = j := by omega
        subst hE
        obtain ⟨W1, hW1⟩ : ∃ W, wr = W := ⟨_, rfl⟩
        rw [hW1] at HT
        rw [hW1]
        clear hW1 wr
        have zt1 := HT.out.u1
        have zt2 := HT.out.u2
        obtain ⟨zc, u0, u1, u2, u3⟩ := HT.out.cal
        go_wp2
        go_loopw [12, 13, 15, 16, 64] (fun a _ _ _ t wr => ∃ (j m cc : Nat) (L : Option Addr), t = .int .i64 (j : Int) ∧ j ≤ s ∧ a = .slice L m cc ∧ Hid (m = j * n) ∧ Hid (Own wr W1.heap.size L m cc (allB ms rs n n' s X j)) ∧ Hid (Below W1.heap.size W1 wr)) (fun _ _ _ _ t _ => s - (intOf t).toNat)
        case atStart => exact ⟨0, 0, 0, none, rfl, Nat.zero_le _, rfl, Lib.hid (by rw [Nat.zero_mul]), Lib.hid Own.nil_, Lib.hid (Below.refl _ _)⟩
        case round =>
          clear zc u0 u1 u2 u3
          obtain ⟨j, m, cc, L, rfl, hj, rfl, hm, HO, HB⟩ := hrel
          have zr := HB.out.size
          obtain ⟨zc, u0, u1, u2, u3⟩ := HT.out.cal.call HB.out
          have i0 : (0 : Int) ≤ (j : Int) := by omega
          by_cases hlt : j < s
          · have i1 : (j : Int) < (s : Int) := by omega
            have hst := HST.out j
            have hjn : (j + 1) * n = j * n + n := by rw [Nat.add_mul, Nat.one_mul]
            have hjb : j * n ≤ 260 := Nat.le_trans (Nat.mul_le_mul_right n (Nat.le_of_lt hlt)) (by rw [HLN.out]; exact hsn)
            have HJN := Lib.hid hjn
            clear hjn
            obtain ⟨Y, hY⟩ : ∃ Y, j * n = Y := ⟨_, rfl⟩
            rw [hY] at HJN hjb hm
            have hg1 := cnt_cell HT.out.o1 hlt
            have hg2 := cnt_cell HT.out.o2 hlt
            rw [cntR_getD hlt] at hg1 hg2
            have HF1 := Lib.hid hg1
            have HF2 := Lib.hid hg2
            have hb1 := cnt_le (isL rs n') s j X
            have hb2 := cnt_le (fun y => !isL rs n' y) s j X
            clear hY hg1 hg2
            generalize cnt (isL rs n') s j X = F1 at *
            generalize cnt (fun y => !isL rs n' y) s j X = F2 at *
            have HST1 := Lib.hid hst
            clear hst
            go_wp2
            go_loopw [12, 15, 16, 70] (fun a _ _ t wr => ∃ (k m cc : Nat) (L : Option Addr), t = .int .i64 (k : Int) ∧ k ≤ n ∧ a = .slice L m cc ∧ Hid (m = Y + k) ∧ Hid (Own wr W1.heap.size L m cc (allB ms rs n n' s X j ++ rowB ms F1 F2 k)) ∧ Hid (Below W1.heap.size W1 wr)) (fun _ _ _ t _ => n - (intOf t).toNat)
            case atStart => exact ⟨0, m, cc, L, rfl, Nat.zero_le _, rfl, hm, Lib.hid (by rw [rowB, List.append_nil]; exact HO.out), HB⟩
            case round =>
              clear HO HB zr zc u0 u1 u2 u3 hm
              obtain ⟨k, m, cc, L, rfl, hk, rfl, hm, HO, HB⟩ := hrel
              have zr := HB.out.size
              have k0 : (0 : Int) ≤ (k : Int) := by omega
              by_cases hlk : k < n
              · have i2 : (k : Int) < (n : Int) := by omega
                obtain ⟨b, off, rfl, hbl, c1, c2, c3⟩ := Months.at_ (Tri.below H.out (HT.out.bl.trans (HB.out.mono HT.out.bl.size))) hlk
                have hrt := HRT.out F1 F2 k
                have hmb : m ≤ 10000000 := by have := hm.out; omega
                obtain ⟨M, hM⟩ : ∃ M, ms.getD k m0 = M := ⟨_, rfl⟩
                rw [hM] at c1 c2 c3 hrt
                have HRT1 := Lib.hid hrt
                clear hrt hM
                have hf1 := (HB.out.cell (p := ⟨g1, j, none⟩) zt1).trans HF1.out
                have hf2 := (HB.out.cell (p := ⟨g2, j, none⟩) zt2).trans HF2.out
                go_upto_region 22 with fail
                obtain ⟨wm, hwm⟩ : ∃ W, wr.alloc (.cells #[.string M.nm, .int .i64 M.dy, .int .i64 M.lp] 72) = W := ⟨_, rfl⟩
                have p1 : wm.cell? ⟨wr.heap.size, 1, none⟩ = some (.int .i64 M.dy) := by rw [← hwm]; simp
                have p2 : wm.cell? ⟨wr.heap.size, 2, none⟩ = some (.int .i64 M.lp) := by rw [← hwm]; simp
                have l1 : wm.cell? ⟨g1, j, none⟩ = some (.int .i64 (F1 : Int)) := by rw [← hwm]; exact (World.cell?_alloc_lt wr _ _ (by show g1 < _; omega)).trans hf1
                have l2 : wm.cell? ⟨g2, j, none⟩ = some (.int .i64 (F2 : Int)) := by rw [← hwm]; exact (World.cell?_alloc_lt wr _ _ (by show g2 < _; omega)).trans hf2
                have HOm : Hid (Own wm W1.heap.size L m cc (allB ms rs n n' s X j ++ rowB ms F1 F2 k)) := Lib.hid (by rw [← hwm]; exact Own.alloc HO.out _)
                have HBm : Hid (Below W1.heap.size W1 wm) := Lib.hid (by rw [← hwm]; exact HB.out.alloc HB.out.size _)
                rw [hwm]
                clear hwm c1 c2 c3 hf1 hf2
                rcases Nat.lt_trichotomy F1 F2 with hc | hc | hc
                · have HV := Lib.hid (bestN_less (m := M) hc)
                  have d1 : ¬ ((F2 : Int) < (F1 : Int)) := by omega
                  have d2 : ((F1 : Int) == (F2 : Int)) = false := by rw [beq_eq_false_iff_ne]; omega
                  have d3 : decide ((F2 : Int) < (F1 : Int)) = false := decide_eq_false d1
                  have d4 : decide (F2 < F1) = false := decide_eq_false (by omega)
                  have d5 : (F1 == F2) = false := by rw [beq_eq_false_iff_ne]; omega
                  go_quiet (fail)
                  obtain ⟨wq, hwq⟩ : ∃ wq, wm.drewN nq = wq := ⟨_, rfl⟩
                  have HOq : Hid (Own wq W1.heap.size L m cc (allB ms rs n n' s X j ++ rowB ms F1 F2 k)) := Lib.hid (by rw [← hwq]; exact HOm.out)
                  have HBq : Hid (Below W1.heap.size W1 wq) := Lib.hid (by rw [← hwq]; exact below_drewN HBm.out _)
                  have zq := HBq.out.size
                  have d2 : wq.cell? ⟨wr.heap.size, 2, none⟩ = some (.int .i64 M.lp) := by rw [← hwq]; simpa using p2
                  rw [hwq]
                  clear hwq p1 p2 l1 l2
                  go_wp2_with (first | (at_builtin; refine wpList_app rfl _ _ rfl _ W1.heap.size _ _ _ _ rfl (Own.alloc HOq.out _) wq.heap.size rfl M.dy (by simp) (by omega) (by simp; omega) ?_; intro L5 c5 w5 ho5 hb5; have HO5 := Lib.hid ho5; have HB5 := Lib.hid ((HBq.out.alloc HBq.out.size _).trans (hb5.mono (Nat.le_refl _))); clear ho5 hb5) | fail)
                  go_roundw
                  case rel => exact ⟨k + 1, m + 1, c5, L5, by go_num, by omega, rfl, Lib.hid (by have := hm.out; omega), Lib.hid (by rw [HRT1.out, HV.out, ← List.append_assoc]; exact HO5.out), HB5⟩
                  case measure => simp [intOf]; omega
                · by_cases hm2 : M.lp < M.dy
                  · have HV := Lib.hid (bestN_eq hc hm2)
                    have d1 : ¬ ((F2 : Int) < (F1 : Int)) := by omega
                    have d2 : ((F1 : Int) == (F2 : Int)) = true := by rw [hc]; exact beq_self_eq_true _
                    have d3 : decide ((F2 : Int) < (F1 : Int)) = false := decide_eq_false d1
                    have d4 : decide (F2 < F1) = false := decide_eq_false (by omega)
                    have d5 : (F1 == F2) = true := by simpa using hc
                    have d6 : decide (M.lp < M.dy) = true := decide_eq_true hm2
                    go_quiet (fail)
                    obtain ⟨wq, hwq⟩ : ∃ wq, wm.drewN nq = wq := ⟨_, rfl⟩
                    have HOq : Hid (Own wq W1.heap.size L m cc (allB ms rs n n' s X j ++ rowB ms F1 F2 k)) := Lib.hid (by rw [← hwq]; exact HOm.out)
                    have HBq : Hid (Below W1.heap.size W1 wq) := Lib.hid (by rw [← hwq]; exact below_drewN HBm.out _)
                    have zq := HBq.out.size
                    have d2 : wq.cell? ⟨wr.heap.size, 2, none⟩ = some (.int .i64 M.lp) := by rw [← hwq]; simpa using p2
                    rw [hwq]
                    clear hwq p1 p2 l1 l2
                    go_wp2_with (first | (at_builtin; refine wpList_app rfl _ _ rfl _ W1.heap.size _ _ _ _ rfl (Own.alloc HOq.out _) wq.heap.size rfl M.lp (by simp) (by omega) (by simp; omega) ?_; intro L5 c5 w5 ho5 hb5; have HO5 := Lib.hid ho5; have HB5 := Lib.hid ((HBq.out.alloc HBq.out.size _).trans (hb5.mono (Nat.le_refl _))); clear ho5 hb5) | fail)
                    go_roundw
                    case rel => exact ⟨k + 1, m + 1, c5, L5, by go_num, by omega, rfl, Lib.hid (by have := hm.out; omega), Lib.hid (by rw [HRT1.out, HV.out, ← List.append_assoc]; exact HO5.out), HB5⟩
                    case measure => simp [intOf]; omega
                  · have HV := Lib.hid (bestN_eq2 hc hm2)
                    have d1 : ¬ ((F2 : Int) < (F1 : Int)) := by omega
                    have d2 : ((F1 : Int) == (F2 : Int)) = true := by rw [hc]; exact beq_self_eq_true _
                    have d3 : decide ((F2 : Int) < (F1 : Int)) = false := decide_eq_false d1
                    have d4 : decide (F2 < F1) = false := decide_eq_false (by omega)
                    have d5 : (F1 == F2) = true := by simpa using hc
                    have d6 : decide (M.lp < M.dy) = false := decide_eq_false hm2
                    go_quiet (fail)
                    obtain ⟨wq, hwq⟩ : ∃ wq, wm.drewN nq = wq := ⟨_, rfl⟩
                    have HOq : Hid (Own wq W1.heap.size L m cc (allB ms rs n n' s X j ++ rowB ms F1 F2 k)) := Lib.hid (by rw [← hwq]; exact HOm.out)
                    have HBq : Hid (Below W1.heap.size W1 wq) := Lib.hid (by rw [← hwq]; exact below_drewN HBm.out _)
                    have zq := HBq.out.size
                    have d2 : wq.cell? ⟨wr.heap.size, 2, none⟩ = some (.int .i64 M.lp) := by rw [← hwq]; simpa using p2
                    rw [hwq]
                    clear hwq p1 p2 l1 l2
                    go_wp2_with (first | (at_builtin; refine wpList_app rfl _ _ rfl _ W1.heap.size _ _ _ _ rfl (Own.alloc HOq.out _) wq.heap.size rfl M.dy (by simp) (by omega) (by simp; omega) ?_; intro L5 c5 w5 ho5 hb5; have HO5 := Lib.hid ho5; have HB5 := Lib.hid ((HBq.out.alloc HBq.out.size _).trans (hb5.mono (Nat.le_refl _))); clear ho5 hb5) | fail)
                    go_roundw
                    case rel => exact ⟨k + 1, m + 1, c5, L5, by go_num, by omega, rfl, Lib.hid (by have := hm.out; omega), Lib.hid (by rw [HRT1.out, HV.out, ← List.append_assoc]; exact HO5.out), HB5⟩
                    case measure => simp [intOf]; omega
                · have HV := Lib.hid (bestN_more (m := M) hc)
                  have d1 : ((F2 : Int) < (F1 : Int)) := by omega
                  have d3 : decide ((F2 : Int) < (F1 : Int)) = true := decide_eq_true d1
                  have d4 : decide (F2 < F1) = true := decide_eq_true (by omega)
                  go_quiet (fail)
                  obtain ⟨wq, hwq⟩ : ∃ wq, wm.drewN nq = wq := ⟨_, rfl⟩
                  have HOq : Hid (Own wq W1.heap.size L m cc (allB ms rs n n' s X j ++ rowB ms F1 F2 k)) := Lib.hid (by rw [← hwq]; exact HOm.out)
                  have HBq : Hid (Below W1.heap.size W1 wq) := Lib.hid (by rw [← hwq]; exact below_drewN HBm.out _)
                  have zq := HBq.out.size
                  have d2 : wq.cell? ⟨wr.heap.size, 2, none⟩ = some (.int .i64 M.lp) := by rw [← hwq]; simpa using p2
                  rw [hwq]
                  clear hwq p1 p2 l1 l2
                  go_wp2_with (first | (at_builtin; refine wpList_app rfl _ _ rfl _ W1.heap.size _ _ _ _ rfl (Own.alloc HOq.out _) wq.heap.size rfl M.lp (by simp) (by omega) (by simp; omega) ?_; intro L5 c5 w5 ho5 hb5; have HO5 := Lib.hid ho5; have HB5 := Lib.hid ((HBq.out.alloc HBq.out.size _).trans (hb5.mono (Nat.le_refl _))); clear ho5 hb5) | fail)
                  go_roundw
                  case rel => exact ⟨k + 1, m + 1, c5, L5, by go_num, by omega, rfl, Lib.hid (by have := hm.out; omega), Lib.hid (by rw [HRT1.out, HV.out, ← List.append_assoc]; exact HO5.out), HB5⟩
                  case measure => simp [intOf]; omega
              · have i2 : ¬ ((k : Int) < (n : Int)) := by omega
                have hE : k = n := by omega
                subst hE
                go_wp2
                go_roundw
                case rel => exact ⟨j + 1, m, cc, L, by go_num, by omega, rfl, Lib.hid (by rw [HJN.out]; exact hm.out), Lib.hid (by rw [HST1.out]; exact HO.out), HB⟩
                case measure => simp [intOf]; omega
          · have hE : j = s := by omega
            have hjl : m = l := by rw [hm.out, hE]; exact HLN.out
            subst hjl
            have HE := Lib.hid hE
            have hcap : m ≤ cc ∧ cc ≤ 9223372036854775807 := by
              have hl0 := HO.out.len
              rcases HO.out.2 with ⟨e, h0⟩ | ⟨g, cap, cur, e, hb, hh, h1, h2, h3, h4⟩
              · injection e with e1 e2 e3; omega
              · injection e with e1 e2 e3
                subst e3
                exact ⟨h1, by unfold maxLen at h2; omega⟩
            have hbw := HT.out.bl.trans (HB.out.mono HT.out.bl.size)
            have hzw := HT.out.bl.size
            have HBW := Lib.hid hbw
            clear hE hbw
            go_wp2_with fail
            go_at_call 39
            refine (CK.out _ HBW.out _ _ _ (Own.ints HO.out (Nat.le_refl _)) hcap.1 hcap.2).mono ?_
            rintro e1 w7 ⟨rfl, hb7⟩
            have HO7 := Lib.hid (HO.out.call hb7)
            have HB7 := Lib.hid (below_call HBW.out hb7)
            rw [HE.out] at HO7
            rw [HE.out]
            clear hb7
            go_wp2
            go_ret3
            exact ⟨L, m, cc, rfl, HO7.out.low (by omega), HB7.out⟩
end Go.Proofs.YtmbdedkelckedaaGreatDoor
