/- A calendar, a day of it and a work, drawn from bytes. No conditions but that there are at most 4096 bytes. -/
import Derived.Test.YtmbdedkelckedaaDrawSt3
import Derived.Test.YtmbdedkelckedaaPerpPlain
namespace Go.Proofs.Ytmbdedkelckedaa
open Go.RowKit
set_option linter.unusedVariables false
set_option linter.unusedSimpArgs false
/-- a start as a law reads it -/
def GoodPer (W : World) (e : Ending) : Prop :=
  ∃ nm A1 A2 n1 n2 c1 c2 ms rs we y m d L l cc zs te K da wd, e = .returned (stV nm A1 A2 L n1 n2 c1 c2 l cc we y m d (n1 : Int) te ((K : Nat) : Int) da we wd) ∧ Months W W.heap.size A1 n1 ms ∧ Rules W W.heap.size A2 n2 rs ∧ n1 ≤ c1 ∧ c1 ≤ 9223372036854775807 ∧ vCal nm n1 n2 ms rs we = true ∧
    dOk ms rs n1 n2 y m d = true ∧ Ints W W.heap.size L l zs ∧ l ≤ cc ∧ cc ≤ 9223372036854775807 ∧ vPerp zs l (n1 : Int) te ((K : Nat) : Int) da we wd = true
theorem dOk_first {nm : ByteArray} {n n' : Nat} {ms : List Mth} {rs : List Rul} {we : Int} (hv : vCal nm n n' ms rs we = true) : dOk ms rs n n' 0 1 1 = true := by
  obtain ⟨-, -, -, -, ⟨m1, m2⟩, -, -⟩ := vCal_yes hv
  have hd := dayK_bd (y := 0) (m := 1) hv (by omega) (by omega)
  unfold dOk
  rw [inB_mk (by omega) (by omega), inB_mk (by omega) (by omega), inB_mk (by omega) (by omega)]; rfl
set_option maxRecDepth 8000 in
set_option maxHeartbeats 4000000 in
theorem A2Perpetual_any (A : Option Addr) (n c : Nat) (w : World) (hb : Byts w w.heap.size A n) (hn : n ≤ 4096) :
    Calls Try.prog 7 #[.slice A n c] w fun e w' => GoodPer w' e ∧ Below w.heap.size w w' := by
  obtain ⟨W0, hW0⟩ : ∃ W, ((w.alloc (.cells #[.string ⟨#[]⟩, .slice none 0 0, .slice none 0 0, .int .i64 0] 27)).alloc (.cells #[.int .i64 0, .int .i64 0, .int .i64 0] 29)).alloc (.cells #[.slice none 0 0, .int .i64 0, .int .i64 0, .int .i64 0, .int .i64 0, .int .i64 0, .int .i64 0] 32) = W := ⟨_, rfl⟩
  have R0 := Lib.hid (hW0 ▸ rb_new w 27 29 32)
  have B0 : Hid (Below w.heap.size w W0) := Lib.hid (hW0 ▸ below_alloc (below_alloc (below_alloc (Below.refl _ _) _) _) _)
  have hz0 : W0.heap.size = w.heap.size + 3 := by rw [← hW0]; simp
  have HZ0 := Lib.hid hz0
  have HBY := Lib.hid (fun (W : World) (hq : Below w.heap.size w W) => hb.below hq)
  clear hb hz0
  go_enter Try.func7, Try.ntmps7
  go_wp2_with fail
  (try rw [hW0])
  clear hW0
  go_at_call 26
  refine (l00From_any A n c _).mono ?_
  rintro e w1 ⟨rfl, hs1, hb1⟩
  have S1 := Lib.hid hs1
  have R1 := Lib.hid (R0.out.call hb1)
  have B1 := Lib.hid (below_call B0.out hb1)
  have hg1 := hs1.lt
  have hz0 := HZ0.out
  obtain ⟨g, hg⟩ : ∃ g, W0.heap.size = g := ⟨_, rfl⟩
  rw [hg] at S1 hg1 hz0
  have HZ1 := Lib.hid hz0
  clear hs1 hb1 R0 B0 HZ0 hz0
  go_wp2_with fail
  (try rw [hg])
  (try rw [show w.heap.size + 1 + 1 + 1 = g from HZ1.out.symm])
  have hgw := HZ1.out
  have l15 : w.heap.size ≤ g := by omega
  clear hg hgw
  go_at_call 27
  refine (l18Start_any A n c w.heap.size g 0 _ S1.out (HBY.out _ B1.out) l15 B1.out.size hn (by omega)).mono ?_
  rintro e w2 ⟨⟨nm, A1, A2, n1, n2, c1, c2, ms, rs, we, y, m, d, L2, l2, cc2, zs2, te, K0, da, wd, rfl, t1, t2, hc1, hc2, hv, hdo, hz, hl, hcc, hvp⟩, hs2, hq2⟩
  have HV := Lib.hid hv
  have HVP := Lib.hid hvp
  have hw2 := hq2.size
  have hlo := HZ1.out
  unfold stV
  go_upto_region 3 with fail
  have hal1 := alb0 w2 (.cells #[.string nm, .slice A1 n1 c1, .slice A2 n2 c2, .int .i64 we] 27)
  have K3 : Hid (SK w (w2.alloc (.cells #[.string nm, .slice A1 n1 c1, .slice A2 n2 c2, .int .i64 we] 27)) g A n c (0 + 172) w2.heap.size w1.heap.size w2.heap.size nm A1 A2 n1 n2 c1 c2 we ms rs) := Lib.hid
    ⟨hs2.call hal1, only_below ((only_of_below (row := some g) B1.out).trans hq2) hal1, (R1.out.only hq2 (.inr (by omega))).call hal1, ⟨cal_new w2 27 nm A1 A2 n1 n2 c1 c2 we, ((t1.low (by omega)).call hal1 (Nat.le_refl _)), ((t2.low (by omega)).call hal1 (Nat.le_refl _)), by simp⟩, ⟨.inr (by omega), by omega⟩, by omega, hw2, Nat.le_refl _⟩
  have I3 := Lib.hid ((hz.low (lo' := w1.heap.size) (by omega)).call hal1 (Nat.le_refl _))
  clear hs2 hq2 t1 t2 hz hal1 S1 R1 hv hvp
  obtain ⟨W3, hW3⟩ : ∃ W, w2.alloc (.cells #[.string nm, .slice A1 n1 c1, .slice A2 n2 c2, .int .i64 we] 27) = W := ⟨_, rfl⟩
  have zW3 : W3.heap.size = w2.heap.size + 1 := by rw [← hW3]; simp
  rw [hW3] at K3 I3
  have hal2 := alb0 W3 (.cells #[.int .i64 y, .int .i64 m, .int .i64 d] 29)
  have hal3 := alb0 (W3.alloc (.cells #[.int .i64 y, .int .i64 m, .int .i64 d] 29)) (.cells #[.slice L2 l2 cc2, .int .i64 (n1 : Int), .int .i64 te, .int .i64 (K0 : Int), .int .i64 da, .int .i64 we, .int .i64 wd] 32)
  have K4 := Lib.hid ((K3.out.call hal2).call hal3)
  have I4 := Lib.hid ((I3.out.call hal2 (by omega)).call hal3 (by have := hal2.size; omega))
  have D4 : Hid (DatAt _ _ y m d) := Lib.hid ((dat_new W3 29 y m d).call hal3)
  have P4 : Hid (Work _ _ (.slice L2 l2 cc2) (n1 : Int) te (K0 : Int) da we wd) := Lib.hid (work_new (W3.alloc (.cells #[.int .i64 y, .int .i64 m, .int .i64 d] 29)) 32 (.slice L2 l2 cc2) (n1 : Int) te (K0 : Int) da we wd)
  have zW4 : (W3.alloc (.cells #[.int .i64 y, .int .i64 m, .int .i64 d] 29)).heap.size = w2.heap.size + 1 + 1 := by simp [zW3]
  rw [zW3] at D4
  rw [zW4] at P4
  clear hal2 hal3 zW3 zW4 K3 I3
  rw [hW3]
  clear hW3
  obtain ⟨w4, hw4⟩ : ∃ W, (W3.alloc (.cells #[.int .i64 y, .int .i64 m, .int .i64 d] 29)).alloc (.cells #[.slice L2 l2 cc2, .int .i64 (n1 : Int), .int .i64 te, .int .i64 (K0 : Int), .int .i64 da, .int .i64 we, .int .i64 wd] 32) = W := ⟨_, rfl⟩
  rw [hw4] at K4 I4 D4 P4 ⊢
  clear hw4
  obtain ⟨b, hbe⟩ : ∃ q, w2.heap.size = q := ⟨_, rfl⟩
  obtain ⟨lo, hlo2⟩ : ∃ q, w1.heap.size = q := ⟨_, rfl⟩
  obtain ⟨hi, hhi⟩ : ∃ q, q = b := ⟨_, rfl⟩
  rw [hbe, hlo2] at K4
  rw [hlo2, hbe] at I4
  rw [hbe] at D4 P4 ⊢
  have K4 : Hid (SK w w4 g A n c (0 + 172) b lo hi nm A1 A2 n1 n2 c1 c2 we ms rs) := Lib.hid (hhi ▸ K4.out)
  have hBw := B1.out.size
  clear hbe hlo2 hhi hw2 HZ1 hlo hBw B1 hg1
  obtain ⟨bd, hbd⟩ : ∃ q, b + 1 = q := ⟨_, rfl⟩
  obtain ⟨bp, hbp⟩ : ∃ q, b + 1 + 1 = q := ⟨_, rfl⟩
  rw [hbd] at D4
  rw [hbp] at P4
  rw [hbp, hbd]
  have HNE : Hid (b < bd) := Lib.hid (by omega)
  have hdp : bd < bp := by omega
  clear hbd hbp
  have hvp2 := vPerp_yes HVP.out
  obtain ⟨-, -, -, -, ⟨m1, m2⟩, -, -⟩ := vCal_yes HV.out
  obtain ⟨t0, t1, t2, tf⟩ := D4.out
  have zd4 := D4.out.lt
  have cS := fun (W : World) (h : Work W bp (.slice L2 l2 cc2) (n1 : Int) te (K0 : Int) da we wd) => l18Shows_any (.slice L2 l2 cc2) bp K0 (n1 : Int) te da we wd m d W h (by omega) (by omega) (by have := (perp_good HVP.out).1; have := (vCam_yes hvp2.1).2.2; have := I4.out.1.len; dsimp only at *; omega)
  cases hsb : showB (n1 : Int) (K0 : Int) da m d
  · rw [hsb] at cS
    have CS := Lib.hid cS
    have f0 := tf 0
    have f1 := tf 1
    have f2 := tf 2
    clear cS hsb tf
    go_wp2_with fail
    go_at_call 28
    refine (CS.out _ P4.out).mono ?_
    rintro e w5 ⟨rfl, q, rfl⟩
    have K5 : Hid (SK w (w4.drewN q) g A n c (0 + 172) b lo hi nm A1 A2 n1 n2 c1 c2 we ms rs) := Lib.hid (K4.out.call (below_drewN (Below.refl _ _) q))
    have D5 : Hid (DatAt (w4.drewN q) bd y m d) := Lib.hid D4.out
    have P5 : Hid (Work (w4.drewN q) bp (.slice L2 l2 cc2) (n1 : Int) te (K0 : Int) da we wd) := Lib.hid P4.out
    have I5 : Hid (IntsIn (w4.drewN q) lo b L2 l2 zs2) := Lib.hid I4.out
    clear t0 t1 t2 f0 f1 f2 zd4 K4 D4 P4 I4
    obtain ⟨w5, hw5⟩ : ∃ W, w4.drewN q = W := ⟨_, rfl⟩
    rw [hw5] at K5 D5 P5 I5 ⊢
    clear hw5
    obtain ⟨t0, t1, t2, tf⟩ := D5.out
    have f0 := tf 0
    have f1 := tf 1
    have f2 := tf 2
    have zd5 := D5.out.lt
    clear tf
    have hbd := HNE.out
    have hlb := K5.out.lb
    have hqb := K5.out.ql
    have K9 := Lib.hid (K5.out.set3 hbd (v0 := .int .i64 0) (v1 := .int .i64 1) (v2 := .int .i64 1))
    have D9 := Lib.hid (((D5.out.set0 0).set1 1).set2 1)
    have P9 := Lib.hid (P5.out.keep (w' := ((w5.setCell ⟨bd, 0, none⟩ (.int .i64 0)).setCell ⟨bd, 1, none⟩ (.int .i64 1)).setCell ⟨bd, 2, none⟩ (.int .i64 1)) (set3_heap _ (by omega)))
    have I9 : Hid (IntsIn (((w5.setCell ⟨bd, 0, none⟩ (.int .i64 0)).setCell ⟨bd, 1, none⟩ (.int .i64 1)).setCell ⟨bd, 2, none⟩ (.int .i64 1)) lo (((w5.setCell ⟨bd, 0, none⟩ (.int .i64 0)).setCell ⟨bd, 1, none⟩ (.int .i64 1)).setCell ⟨bd, 2, none⟩ (.int .i64 1)).heap.size L2 l2 zs2) := Lib.hid ((I5.out.keep (fun p h1 h2 => set3_keep _ (by omega))).more (by simp; omega))
    have hdo := dOk_first HV.out
    go_upto_region 5 with fail
    clear t0 t1 t2 f0 f1 f2 zd5 K5 D5 P5 I5
    obtain ⟨w9, hw9⟩ : ∃ W, ((w5.setCell ⟨bd, 0, none⟩ (.int .i64 0)).setCell ⟨bd, 1, none⟩ (.int .i64 1)).setCell ⟨bd, 2, none⟩ (.int .i64 1) = W := ⟨_, rfl⟩
    rw [hw9] at K9 D9 P9 I9 ⊢
    clear hw9
    obtain ⟨y, m, d, hy, hm, hd⟩ : ∃ y m d : Int, y = 0 ∧ m = 1 ∧ d = 1 := ⟨0, 1, 1, rfl, rfl, rfl⟩
    have D9 : Hid (DatAt w9 bd y m d) := Lib.hid (by rw [hy, hm, hd]; exact D9.out)
    have hdo : dOk ms rs n1 n2 y m d = true := by rw [hy, hm, hd]; exact hdo
    clear hy hm hd
    have K9d : Hid (SK w w9.drew g A n c (0 + 172) b lo hi nm A1 A2 n1 n2 c1 c2 we ms rs) := Lib.hid (K9.out.call (Below.drew (Below.refl _ _)))
    have D9d : Hid (DatAt w9.drew bd y m d) := Lib.hid D9.out
    have P9d : Hid (Work w9.drew bp (.slice L2 l2 cc2) (n1 : Int) te ((K0 : Nat) : Int) da we wd) := Lib.hid P9.out
    have I9d : Hid (IntsIn w9.drew (lo) w9.drew.heap.size L2 l2 zs2) := Lib.hid I9.out
    obtain ⟨zc9, u0, u1, u2, u3⟩ := K9.out.cal.at_
    obtain ⟨t0, t1, t2, -⟩ := D9.out
    obtain ⟨p0, p1, p2, p3, p4, p5, p6, -⟩ := P9.out
    have zd9 := D9.out.lt
    have zp9 := P9.out.lt
    have gb := K9.out.ql
    have gc := K9.out.lb
    have hqd := HNE.out
    refine wp_region_held_drew (S := (fun w' => w'.cell? ⟨b, 0, none⟩ = some (.string nm) ∧ w'.cell? ⟨b, 1, none⟩ = some (.slice A1 n1 c1) ∧ w'.cell? ⟨b, 2, none⟩ = some (.slice A2 n2 c2) ∧ w'.cell? ⟨b, 3, none⟩ = some (.int .i64 we) ∧ w'.cell? ⟨bd, 0, none⟩ = some (.int .i64 y) ∧ w'.cell? ⟨bd, 1, none⟩ = some (.int .i64 m) ∧ w'.cell? ⟨bd, 2, none⟩ = some (.int .i64 d) ∧ w'.cell? ⟨bp, 0, none⟩ = some (.slice L2 l2 cc2) ∧ w'.cell? ⟨bp, 1, none⟩ = some (.int .i64 (n1 : Int)) ∧ w'.cell? ⟨bp, 2, none⟩ = some (.int .i64 te) ∧ w'.cell? ⟨bp, 3, none⟩ = some (.int .i64 (K0 : Int)) ∧ w'.cell? ⟨bp, 4, none⟩ = some (.int .i64 da) ∧ w'.cell? ⟨bp, 5, none⟩ = some (.int .i64 we) ∧ w'.cell? ⟨bp, 6, none⟩ = some (.int .i64 wd) ∧ b < w'.heap.size ∧ bd < w'.heap.size ∧ bp < w'.heap.size)) (by kernel_rfl) ?_ (fun hHeld => ?_)
    · (try dsimp only); (first | ((try go_split_ands); (try dsimp only); refine ⟨?_, ?_, ?_, ?_, ?_, ?_, ?_, ?_, ?_, ?_, ?_, ?_, ?_, ?_, ?_, ?_, ?_⟩ <;> first | (exact cell_call (by assumption) (by assumption) (by assumption)) | (exact lt_call (by assumption) (by assumption)) | (exact below_call' (by assumption) (by assumption)) | (exact Below.drew (by assumption)) | (with_reducible assumption) | (simp; done) | (simp [*]; done) | ((repeat (first | with_reducible exact Below.refl _ _ | with_reducible refine below_alloc ?_ _ | with_reducible refine below_drewN ?_ _ | with_reducible refine Below.drew ?_ | ((with_reducible refine below_set ?_ ?_ _); rotate_left; (focus (first | (simp; done) | (simp; omega) | omega))) | with_reducible refine below_call ?_ (by assumption))); done) | omega | (simp; omega) | (simp [go_sem]; done) | (simp [go_sem, *]; done)))
    (refine wpAnyH_take (i := 0) (v := ?_) rfl (by kernel_rfl) (by kernel_rfl) (by kernel_rfl) (fun _ _ _ h => h) (Or.inl ⟨by kernel_rfl, ?_⟩) (by assumption) ?_; rotate_left; (focus (intro w hSw; (try dsimp only at hSw); go_simp; (try with_reducible rfl))); (try simp only [Act.put, List.getElem_toArray, List.getElem_cons_zero, List.getElem_cons_succ, List.setIfInBounds_toArray, List.set_cons_zero, List.set_cons_succ]))
    (refine wpAnyH_take (i := 1) (v := ?_) rfl (by kernel_rfl) (by kernel_rfl) (by kernel_rfl) (fun _ _ _ h => h) (Or.inl ⟨by kernel_rfl, ?_⟩) (by assumption) ?_; rotate_left; (focus (intro w hSw; (try dsimp only at hSw); go_simp; (try with_reducible rfl))); (try simp only [Act.put, List.getElem_toArray, List.getElem_cons_zero, List.getElem_cons_succ, List.setIfInBounds_toArray, List.set_cons_zero, List.set_cons_succ]))
    (refine wpAnyH_take (i := 2) (v := ?_) rfl (by kernel_rfl) (by kernel_rfl) (by kernel_rfl) (fun _ _ _ h => h) (Or.inl ⟨by kernel_rfl, ?_⟩) (by assumption) ?_; rotate_left; (focus (intro w hSw; (try dsimp only at hSw); go_simp; (try with_reducible rfl))); (try simp only [Act.put, List.getElem_toArray, List.getElem_cons_zero, List.getElem_cons_succ, List.setIfInBounds_toArray, List.set_cons_zero, List.set_cons_succ]))
    clear K9 D9 P9 I9 u0 u1 u2 u3 t0 t1 t2 p0 p1 p2 p3 p4 p5 p6 zc9 zd9 zp9
    generalize w9.drew = wA at *
    have K9 := K9d
    have D9 := D9d
    have P9 := P9d
    have I9 := I9d
    clear K9d D9d P9d I9d
    obtain ⟨zc9, u0, u1, u2, u3⟩ := K9.out.cal.at_
    obtain ⟨t0, t1, t2, -⟩ := D9.out
    obtain ⟨p0, p1, p2, p3, p4, p5, p6, -⟩ := P9.out
    have zd9 := D9.out.lt
    have zp9 := P9.out.lt
    have hlq := K9.out.hb
    obtain ⟨⟨-, a0, a1, a2, a3⟩, af⟩ := K9.out.rb.c
    have g0 := af 0
    have g1 := af 1
    have g2 := af 2
    have g3 := af 3
    clear af
    refine wpAnyH_ready (rs := [3]) (by kernel_rfl) (by simp) ?_
    refine AllReadyH.cons rfl (fun K hK => ?_) (AllReadyH.nil)
    (try simp only [List.getElem_toArray, List.getElem_cons_zero, List.getElem_cons_succ])
    (try rw [if_pos (by kernel_rfl)])
    go_simp
    (try dsimp only)
    refine hK.out _ _ ?_ (fun hHeld => ?_)
    · exact ⟨((set4_keep _ (by show b ≠ w.heap.size; omega)).trans u0), ((set4_keep _ (by show b ≠ w.heap.size; omega)).trans u1), ((set4_keep _ (by show b ≠ w.heap.size; omega)).trans u2), ((set4_keep _ (by show b ≠ w.heap.size; omega)).trans u3), ((set4_keep _ (by show bd ≠ w.heap.size; omega)).trans t0), ((set4_keep _ (by show bd ≠ w.heap.size; omega)).trans t1), ((set4_keep _ (by show bd ≠ w.heap.size; omega)).trans t2), ((set4_keep _ (by show bp ≠ w.heap.size; omega)).trans p0), ((set4_keep _ (by show bp ≠ w.heap.size; omega)).trans p1), ((set4_keep _ (by show bp ≠ w.heap.size; omega)).trans p2), ((set4_keep _ (by show bp ≠ w.heap.size; omega)).trans p3), ((set4_keep _ (by show bp ≠ w.heap.size; omega)).trans p4), ((set4_keep _ (by show bp ≠ w.heap.size; omega)).trans p5), ((set4_keep _ (by show bp ≠ w.heap.size; omega)).trans p6), by simpa using zc9, by simpa using zd9, by simpa using zp9⟩
    clear hK K hHeld
    (try simp only [Act.put, List.getElem_toArray, List.getElem_cons_zero, List.getElem_cons_succ, List.setIfInBounds_toArray, List.set_cons_zero, List.set_cons_succ])
    clear a0 a1 a2 a3 g0 g1 g2 g3
    obtain ⟨a0, a1, a2, af⟩ := K9.out.rb.d.keep (w' := (((wA.setCell ⟨w.heap.size, 0, none⟩ (.string nm)).setCell ⟨w.heap.size, 1, none⟩ (.slice A1 n1 c1)).setCell ⟨w.heap.size, 2, none⟩ (.slice A2 n2 c2)).setCell ⟨w.heap.size, 3, none⟩ (.int .i64 we)) (set4_heap _ (by omega))
    have g0 := af 0
    have g1 := af 1
    have g2 := af 2
    clear af
    refine wpAnyH_ready (rs := [4]) (by kernel_rfl) (by simp) ?_
    refine AllReadyH.cons rfl (fun K hK => ?_) (AllReadyH.nil)
    (try simp only [List.getElem_toArray, List.getElem_cons_zero, List.getElem_cons_succ])
    (try rw [if_pos (by kernel_rfl)])
    go_simp
    (try dsimp only)
    refine hK.out _ _ ?_ (fun hHeld => ?_)
    · exact ⟨((set3_keep _ (by show b ≠ w.heap.size + 1; omega)).trans ((set4_keep _ (by show b ≠ w.heap.size; omega)).trans u0)), ((set3_keep _ (by show b ≠ w.heap.size + 1; omega)).trans ((set4_keep _ (by show b ≠ w.heap.size; omega)).trans u1)), ((set3_keep _ (by show b ≠ w.heap.size + 1; omega)).trans ((set4_keep _ (by show b ≠ w.heap.size; omega)).trans u2)), ((set3_keep _ (by show b ≠ w.heap.size + 1; omega)).trans ((set4_keep _ (by show b ≠ w.heap.size; omega)).trans u3)), ((set3_keep _ (by show bd ≠ w.heap.size + 1; omega)).trans ((set4_keep _ (by show bd ≠ w.heap.size; omega)).trans t0)), ((set3_keep _ (by show bd ≠ w.heap.size + 1; omega)).trans ((set4_keep _ (by show bd ≠ w.heap.size; omega)).trans t1)), ((set3_keep _ (by show bd ≠ w.heap.size + 1; omega)).trans ((set4_keep _ (by show bd ≠ w.heap.size; omega)).trans t2)), ((set3_keep _ (by show bp ≠ w.heap.size + 1; omega)).trans ((set4_keep _ (by show bp ≠ w.heap.size; omega)).trans p0)), ((set3_keep _ (by show bp ≠ w.heap.size + 1; omega)).trans ((set4_keep _ (by show bp ≠ w.heap.size; omega)).trans p1)), ((set3_keep _ (by show bp ≠ w.heap.size + 1; omega)).trans ((set4_keep _ (by show bp ≠ w.heap.size; omega)).trans p2)), ((set3_keep _ (by show bp ≠ w.heap.size + 1; omega)).trans ((set4_keep _ (by show bp ≠ w.heap.size; omega)).trans p3)), ((set3_keep _ (by show bp ≠ w.heap.size + 1; omega)).trans ((set4_keep _ (by show bp ≠ w.heap.size; omega)).trans p4)), ((set3_keep _ (by show bp ≠ w.heap.size + 1; omega)).trans ((set4_keep _ (by show bp ≠ w.heap.size; omega)).trans p5)), ((set3_keep _ (by show bp ≠ w.heap.size + 1; omega)).trans ((set4_keep _ (by show bp ≠ w.heap.size; omega)).trans p6)), by simpa using zc9, by simpa using zd9, by simpa using zp9⟩
    clear hK K hHeld
    (try simp only [Act.put, List.getElem_toArray, List.getElem_cons_zero, List.getElem_cons_succ, List.setIfInBounds_toArray, List.set_cons_zero, List.set_cons_succ])
    clear a0 a1 a2 g0 g1 g2
    obtain ⟨a0, a1, a2, a3, a4, a5, a6, af⟩ := K9.out.rb.p.keep (w' := ((((((wA.setCell ⟨w.heap.size, 0, none⟩ (.string nm)).setCell ⟨w.heap.size, 1, none⟩ (.slice A1 n1 c1)).setCell ⟨w.heap.size, 2, none⟩ (.slice A2 n2 c2)).setCell ⟨w.heap.size, 3, none⟩ (.int .i64 we)).setCell ⟨w.heap.size + 1, 0, none⟩ (.int .i64 y)).setCell ⟨w.heap.size + 1, 1, none⟩ (.int .i64 m)).setCell ⟨w.heap.size + 1, 2, none⟩ (.int .i64 d)) ((set3_heap _ (by omega)).trans (set4_heap _ (by omega)))
    have g0 := af 0
    have g1 := af 1
    have g2 := af 2
    have g3 := af 3
    have g4 := af 4
    have g5 := af 5
    have g6 := af 6
    clear af
    refine wpAnyH_ready (rs := [5]) (by kernel_rfl) (by simp) ?_
    refine AllReadyH.cons rfl (fun K hK => ?_) (AllReadyH.nil)
    (try simp only [List.getElem_toArray, List.getElem_cons_zero, List.getElem_cons_succ])
    (try rw [if_pos (by kernel_rfl)])
    go_simp
    (try dsimp only)
    refine hK.out _ _ ?_ (fun hHeld => ?_)
    · exact ⟨((set7_keep _ (by show b ≠ w.heap.size + 1 + 1; omega)).trans ((set3_keep _ (by show b ≠ w.heap.size + 1; omega)).trans ((set4_keep _ (by show b ≠ w.heap.size; omega)).trans u0))), ((set7_keep _ (by show b ≠ w.heap.size + 1 + 1; omega)).trans ((set3_keep _ (by show b ≠ w.heap.size + 1; omega)).trans ((set4_keep _ (by show b ≠ w.heap.size; omega)).trans u1))), ((set7_keep _ (by show b ≠ w.heap.size + 1 + 1; omega)).trans ((set3_keep _ (by show b ≠ w.heap.size + 1; omega)).trans ((set4_keep _ (by show b ≠ w.heap.size; omega)).trans u2))), ((set7_keep _ (by show b ≠ w.heap.size + 1 + 1; omega)).trans ((set3_keep _ (by show b ≠ w.heap.size + 1; omega)).trans ((set4_keep _ (by show b ≠ w.heap.size; omega)).trans u3))), ((set7_keep _ (by show bd ≠ w.heap.size + 1 + 1; omega)).trans ((set3_keep _ (by show bd ≠ w.heap.size + 1; omega)).trans ((set4_keep _ (by show bd ≠ w.heap.size; omega)).trans t0))), ((set7_keep _ (by show bd ≠ w.heap.size + 1 + 1; omega)).trans ((set3_keep _ (by show bd ≠ w.heap.size + 1; omega)).trans ((set4_keep _ (by show bd ≠ w.heap.size; omega)).trans t1))), ((set7_keep _ (by show bd ≠ w.heap.size + 1 + 1; omega)).trans ((set3_keep _ (by show bd ≠ w.heap.size + 1; omega)).trans ((set4_keep _ (by show bd ≠ w.heap.size; omega)).trans t2))), ((set7_keep _ (by show bp ≠ w.heap.size + 1 + 1; omega)).trans ((set3_keep _ (by show bp ≠ w.heap.size + 1; omega)).trans ((set4_keep _ (by show bp ≠ w.heap.size; omega)).trans p0))), ((set7_keep _ (by show bp ≠ w.heap.size + 1 + 1; omega)).trans ((set3_keep _ (by show bp ≠ w.heap.size + 1; omega)).trans ((set4_keep _ (by show bp ≠ w.heap.size; omega)).trans p1))), ((set7_keep _ (by show bp ≠ w.heap.size + 1 + 1; omega)).trans ((set3_keep _ (by show bp ≠ w.heap.size + 1; omega)).trans ((set4_keep _ (by show bp ≠ w.heap.size; omega)).trans p2))), ((set7_keep _ (by show bp ≠ w.heap.size + 1 + 1; omega)).trans ((set3_keep _ (by show bp ≠ w.heap.size + 1; omega)).trans ((set4_keep _ (by show bp ≠ w.heap.size; omega)).trans p3))), ((set7_keep _ (by show bp ≠ w.heap.size + 1 + 1; omega)).trans ((set3_keep _ (by show bp ≠ w.heap.size + 1; omega)).trans ((set4_keep _ (by show bp ≠ w.heap.size; omega)).trans p4))), ((set7_keep _ (by show bp ≠ w.heap.size + 1 + 1; omega)).trans ((set3_keep _ (by show bp ≠ w.heap.size + 1; omega)).trans ((set4_keep _ (by show bp ≠ w.heap.size; omega)).trans p5))), ((set7_keep _ (by show bp ≠ w.heap.size + 1 + 1; omega)).trans ((set3_keep _ (by show bp ≠ w.heap.size + 1; omega)).trans ((set4_keep _ (by show bp ≠ w.heap.size; omega)).trans p6))), by simpa using zc9, by simpa using zd9, by simpa using zp9⟩
    clear hK K hHeld
    (try simp only [Act.put, List.getElem_toArray, List.getElem_cons_zero, List.getElem_cons_succ, List.setIfInBounds_toArray, List.set_cons_zero, List.set_cons_succ])
    refine wpAnyH_done (by kernel_rfl) ?_ _
    clear a0 a1 a2 a3 a4 a5 a6 g0 g1 g2 g3 g4 g5 g6 u0 u1 u2 u3 t0 t1 t2 p0 p1 p2 p3 p4 p5 p6 zc9 zd9 zp9
    have FX := Lib.hid (fin_of (y := y) (m := m) (d := d) (mo := (n1 : Int)) (te := te) (ix := (K0 : Int)) (da := da) (wk := we) (wd := wd) (cc := cc2) K9.out I9.out (by omega))
    obtain ⟨wZ, hwZ⟩ : ∃ W, fin3 wA w.heap.size nm A1 A2 L2 n1 n2 c1 c2 l2 cc2 we y m d (n1 : Int) te (K0 : Int) da we wd = W := ⟨_, rfl⟩
    rw [hwZ] at FX
    unfold fin3 at hwZ
    rw [hwZ]
    clear hwZ
    obtain ⟨zx, x0, x1, x2, x3⟩ := FX.out.xc
    obtain ⟨e0, e1, e2, -⟩ := FX.out.xd
    obtain ⟨q0, q1, q2, q3, q4, q5, q6, -⟩ := FX.out.xp
    have zy := FX.out.xd.lt
    have zz := FX.out.xp.lt
    go_wp2
    refine bodyPost_ret (v := stV nm A1 A2 L2 n1 n2 c1 c2 l2 cc2 we y m d (n1 : Int) te (K0 : Int) da we wd) ?_ rfl ⟨⟨nm, A1, A2, n1, n2, c1, c2, ms, rs, we, y, m, d, L2, l2, cc2, zs2, te, K0, da, wd, rfl, Tri.more FX.out.xm.1 (Nat.le_refl _), Tri.more FX.out.xr.1 (Nat.le_refl _), hc1, hc2, HV.out, hdo, FX.out.xz.1, hl, hcc, HVP.out⟩, below_only (Below.refl _ _) FX.out.gb (Nat.le_refl _) l15⟩
    simp [results, Try.results7, stV, go_sem, *]
  · rw [hsb] at cS
    have CS := Lib.hid cS
    clear cS hsb tf
    go_wp2_with fail
    go_at_call 28
    refine (CS.out _ P4.out).mono ?_
    rintro e w5 ⟨rfl, q, rfl⟩
    have K9 : Hid (SK w (w4.drewN q) g A n c (0 + 172) b lo hi nm A1 A2 n1 n2 c1 c2 we ms rs) := Lib.hid (K4.out.call (below_drewN (Below.refl _ _) q))
    have D9 : Hid (DatAt (w4.drewN q) bd y m d) := Lib.hid D4.out
    have P9 : Hid (Work (w4.drewN q) bp (.slice L2 l2 cc2) (n1 : Int) te (K0 : Int) da we wd) := Lib.hid P4.out
    have hbz := K9.out.cal.lt
    have I9 : Hid (IntsIn (w4.drewN q) lo (w4.drewN q).heap.size L2 l2 zs2) := Lib.hid (IntsIn.more (show IntsIn (w4.drewN q) lo b L2 l2 zs2 from I4.out) (by omega))
    clear t0 t1 t2 zd4 K4 D4 P4 I4 hbz
    obtain ⟨w9, hw9⟩ : ∃ W, w4.drewN q = W := ⟨_, rfl⟩
    rw [hw9] at K9 D9 P9 I9 ⊢
    clear hw9
    go_upto_region 5 with fail
    have K9d : Hid (SK w w9.drew g A n c (0 + 172) b lo hi nm A1 A2 n1 n2 c1 c2 we ms rs) := Lib.hid (K9.out.call (Below.drew (Below.refl _ _)))
    have D9d : Hid (DatAt w9.drew bd y m d) := Lib.hid D9.out
    have P9d : Hid (Work w9.drew bp (.slice L2 l2 cc2) (n1 : Int) te ((K0 : Nat) : Int) da we wd) := Lib.hid P9.out
    have I9d : Hid (IntsIn w9.drew (lo) w9.drew.heap.size L2 l2 zs2) := Lib.hid I9.out
    obtain ⟨zc9, u0, u1, u2, u3⟩ := K9.out.cal.at_
    obtain ⟨t0, t1, t2, -⟩ := D9.out
    obtain ⟨p0, p1, p2, p3, p4, p5, p6, -⟩ := P9.out
    have zd9 := D9.out.lt
    have zp9 := P9.out.lt
    have gb := K9.out.ql
    have gc := K9.out.lb
    have hqd := HNE.out
    refine wp_region_held_drew (S := (fun w' => w'.cell? ⟨b, 0, none⟩ = some (.string nm) ∧ w'.cell? ⟨b, 1, none⟩ = some (.slice A1 n1 c1) ∧ w'.cell? ⟨b, 2, none⟩ = some (.slice A2 n2 c2) ∧ w'.cell? ⟨b, 3, none⟩ = some (.int .i64 we) ∧ w'.cell? ⟨bd, 0, none⟩ = some (.int .i64 y) ∧ w'.cell? ⟨bd, 1, none⟩ = some (.int .i64 m) ∧ w'.cell? ⟨bd, 2, none⟩ = some (.int .i64 d) ∧ w'.cell? ⟨bp, 0, none⟩ = some (.slice L2 l2 cc2) ∧ w'.cell? ⟨bp, 1, none⟩ = some (.int .i64 (n1 : Int)) ∧ w'.cell? ⟨bp, 2, none⟩ = some (.int .i64 te) ∧ w'.cell? ⟨bp, 3, none⟩ = some (.int .i64 (K0 : Int)) ∧ w'.cell? ⟨bp, 4, none⟩ = some (.int .i64 da) ∧ w'.cell? ⟨bp, 5, none⟩ = some (.int .i64 we) ∧ w'.cell? ⟨bp, 6, none⟩ = some (.int .i64 wd) ∧ b < w'.heap.size ∧ bd < w'.heap.size ∧ bp < w'.heap.size)) (by kernel_rfl) ?_ (fun hHeld => ?_)
    · (try dsimp only); (first | ((try go_split_ands); (try dsimp only); refine ⟨?_, ?_, ?_, ?_, ?_, ?_, ?_, ?_, ?_, ?_, ?_, ?_, ?_, ?_, ?_, ?_, ?_⟩ <;> first | (exact cell_call (by assumption) (by assumption) (by assumption)) | (exact lt_call (by assumption) (by assumption)) | (exact below_call' (by assumption) (by assumption)) | (exact Below.drew (by assumption)) | (with_reducible assumption) | (simp; done) | (simp [*]; done) | ((repeat (first | with_reducible exact Below.refl _ _ | with_reducible refine below_alloc ?_ _ | with_reducible refine below_drewN ?_ _ | with_reducible refine Below.drew ?_ | ((with_reducible refine below_set ?_ ?_ _); rotate_left; (focus (first | (simp; done) | (simp; omega) | omega))) | with_reducible refine below_call ?_ (by assumption))); done) | omega | (simp; omega) | (simp [go_sem]; done) | (simp [go_sem, *]; done)))
    (refine wpAnyH_take (i := 0) (v := ?_) rfl (by kernel_rfl) (by kernel_rfl) (by kernel_rfl) (fun _ _ _ h => h) (Or.inl ⟨by kernel_rfl, ?_⟩) (by assumption) ?_; rotate_left; (focus (intro w hSw; (try dsimp only at hSw); go_simp; (try with_reducible rfl))); (try simp only [Act.put, List.getElem_toArray, List.getElem_cons_zero, List.getElem_cons_succ, List.setIfInBounds_toArray, List.set_cons_zero, List.set_cons_succ]))
    (refine wpAnyH_take (i := 1) (v := ?_) rfl (by kernel_rfl) (by kernel_rfl) (by kernel_rfl) (fun _ _ _ h => h) (Or.inl ⟨by kernel_rfl, ?_⟩) (by assumption) ?_; rotate_left; (focus (intro w hSw; (try dsimp only at hSw); go_simp; (try with_reducible rfl))); (try simp only [Act.put, List.getElem_toArray, List.getElem_cons_zero, List.getElem_cons_succ, List.setIfInBounds_toArray, List.set_cons_zero, List.set_cons_succ]))
    (refine wpAnyH_take (i := 2) (v := ?_) rfl (by kernel_rfl) (by kernel_rfl) (by kernel_rfl) (fun _ _ _ h => h) (Or.inl ⟨by kernel_rfl, ?_⟩) (by assumption) ?_; rotate_left; (focus (intro w hSw; (try dsimp only at hSw); go_simp; (try with_reducible rfl))); (try simp only [Act.put, List.getElem_toArray, List.getElem_cons_zero, List.getElem_cons_succ, List.setIfInBounds_toArray, List.set_cons_zero, List.set_cons_succ]))
    clear K9 D9 P9 I9 u0 u1 u2 u3 t0 t1 t2 p0 p1 p2 p3 p4 p5 p6 zc9 zd9 zp9
    generalize w9.drew = wA at *
    have K9 := K9d
    have D9 := D9d
    have P9 := P9d
    have I9 := I9d
    clear K9d D9d P9d I9d
    obtain ⟨zc9, u0, u1, u2, u3⟩ := K9.out.cal.at_
    obtain ⟨t0, t1, t2, -⟩ := D9.out
    obtain ⟨p0, p1, p2, p3, p4, p5, p6, -⟩ := P9.out
    have zd9 := D9.out.lt
    have zp9 := P9.out.lt
    have hlq := K9.out.hb
    obtain ⟨⟨-, a0, a1, a2, a3⟩, af⟩ := K9.out.rb.c
    have g0 := af 0
    have g1 := af 1
    have g2 := af 2
    have g3 := af 3
    clear af
    refine wpAnyH_ready (rs := [3]) (by kernel_rfl) (by simp) ?_
    refine AllReadyH.cons rfl (fun K hK => ?_) (AllReadyH.nil)
    (try simp only [List.getElem_toArray, List.getElem_cons_zero, List.getElem_cons_succ])
    (try rw [if_pos (by kernel_rfl)])
    go_simp
    (try dsimp only)
    refine hK.out _ _ ?_ (fun hHeld => ?_)
    · exact ⟨((set4_keep _ (by show b ≠ w.heap.size; omega)).trans u0), ((set4_keep _ (by show b ≠ w.heap.size; omega)).trans u1), ((set4_keep _ (by show b ≠ w.heap.size; omega)).trans u2), ((set4_keep _ (by show b ≠ w.heap.size; omega)).trans u3), ((set4_keep _ (by show bd ≠ w.heap.size; omega)).trans t0), ((set4_keep _ (by show bd ≠ w.heap.size; omega)).trans t1), ((set4_keep _ (by show bd ≠ w.heap.size; omega)).trans t2), ((set4_keep _ (by show bp ≠ w.heap.size; omega)).trans p0), ((set4_keep _ (by show bp ≠ w.heap.size; omega)).trans p1), ((set4_keep _ (by show bp ≠ w.heap.size; omega)).trans p2), ((set4_keep _ (by show bp ≠ w.heap.size; omega)).trans p3), ((set4_keep _ (by show bp ≠ w.heap.size; omega)).trans p4), ((set4_keep _ (by show bp ≠ w.heap.size; omega)).trans p5), ((set4_keep _ (by show bp ≠ w.heap.size; omega)).trans p6), by simpa using zc9, by simpa using zd9, by simpa using zp9⟩
    clear hK K hHeld
    (try simp only [Act.put, List.getElem_toArray, List.getElem_cons_zero, List.getElem_cons_succ, List.setIfInBounds_toArray, List.set_cons_zero, List.set_cons_succ])
    clear a0 a1 a2 a3 g0 g1 g2 g3
    obtain ⟨a0, a1, a2, af⟩ := K9.out.rb.d.keep (w' := (((wA.setCell ⟨w.heap.size, 0, none⟩ (.string nm)).setCell ⟨w.heap.size, 1, none⟩ (.slice A1 n1 c1)).setCell ⟨w.heap.size, 2, none⟩ (.slice A2 n2 c2)).setCell ⟨w.heap.size, 3, none⟩ (.int .i64 we)) (set4_heap _ (by omega))
    have g0 := af 0
    have g1 := af 1
    have g2 := af 2
    clear af
    refine wpAnyH_ready (rs := [4]) (by kernel_rfl) (by simp) ?_
    refine AllReadyH.cons rfl (fun K hK => ?_) (AllReadyH.nil)
    (try simp only [List.getElem_toArray, List.getElem_cons_zero, List.getElem_cons_succ])
    (try rw [if_pos (by kernel_rfl)])
    go_simp
    (try dsimp only)
    refine hK.out _ _ ?_ (fun hHeld => ?_)
    · exact ⟨((set3_keep _ (by show b ≠ w.heap.size + 1; omega)).trans ((set4_keep _ (by show b ≠ w.heap.size; omega)).trans u0)), ((set3_keep _ (by show b ≠ w.heap.size + 1; omega)).trans ((set4_keep _ (by show b ≠ w.heap.size; omega)).trans u1)), ((set3_keep _ (by show b ≠ w.heap.size + 1; omega)).trans ((set4_keep _ (by show b ≠ w.heap.size; omega)).trans u2)), ((set3_keep _ (by show b ≠ w.heap.size + 1; omega)).trans ((set4_keep _ (by show b ≠ w.heap.size; omega)).trans u3)), ((set3_keep _ (by show bd ≠ w.heap.size + 1; omega)).trans ((set4_keep _ (by show bd ≠ w.heap.size; omega)).trans t0)), ((set3_keep _ (by show bd ≠ w.heap.size + 1; omega)).trans ((set4_keep _ (by show bd ≠ w.heap.size; omega)).trans t1)), ((set3_keep _ (by show bd ≠ w.heap.size + 1; omega)).trans ((set4_keep _ (by show bd ≠ w.heap.size; omega)).trans t2)), ((set3_keep _ (by show bp ≠ w.heap.size + 1; omega)).trans ((set4_keep _ (by show bp ≠ w.heap.size; omega)).trans p0)), ((set3_keep _ (by show bp ≠ w.heap.size + 1; omega)).trans ((set4_keep _ (by show bp ≠ w.heap.size; omega)).trans p1)), ((set3_keep _ (by show bp ≠ w.heap.size + 1; omega)).trans ((set4_keep _ (by show bp ≠ w.heap.size; omega)).trans p2)), ((set3_keep _ (by show bp ≠ w.heap.size + 1; omega)).trans ((set4_keep _ (by show bp ≠ w.heap.size; omega)).trans p3)), ((set3_keep _ (by show bp ≠ w.heap.size + 1; omega)).trans ((set4_keep _ (by show bp ≠ w.heap.size; omega)).trans p4)), ((set3_keep _ (by show bp ≠ w.heap.size + 1; omega)).trans ((set4_keep _ (by show bp ≠ w.heap.size; omega)).trans p5)), ((set3_keep _ (by show bp ≠ w.heap.size + 1; omega)).trans ((set4_keep _ (by show bp ≠ w.heap.size; omega)).trans p6)), by simpa using zc9, by simpa using zd9, by simpa using zp9⟩
    clear hK K hHeld
    (try simp only [Act.put, List.getElem_toArray, List.getElem_cons_zero, List.getElem_cons_succ, List.setIfInBounds_toArray, List.set_cons_zero, List.set_cons_succ])
    clear a0 a1 a2 g0 g1 g2
    obtain ⟨a0, a1, a2, a3, a4, a5, a6, af⟩ := K9.out.rb.p.keep (w' := ((((((wA.setCell ⟨w.heap.size, 0, none⟩ (.string nm)).setCell ⟨w.heap.size, 1, none⟩ (.slice A1 n1 c1)).setCell ⟨w.heap.size, 2, none⟩ (.slice A2 n2 c2)).setCell ⟨w.heap.size, 3, none⟩ (.int .i64 we)).setCell ⟨w.heap.size + 1, 0, none⟩ (.int .i64 y)).setCell ⟨w.heap.size + 1, 1, none⟩ (.int .i64 m)).setCell ⟨w.heap.size + 1, 2, none⟩ (.int .i64 d)) ((set3_heap _ (by omega)).trans (set4_heap _ (by omega)))
    have g0 := af 0
    have g1 := af 1
    have g2 := af 2
    have g3 := af 3
    have g4 := af 4
    have g5 := af 5
    have g6 := af 6
    clear af
    refine wpAnyH_ready (rs := [5]) (by kernel_rfl) (by simp) ?_
    refine AllReadyH.cons rfl (fun K hK => ?_) (AllReadyH.nil)
    (try simp only [List.getElem_toArray, List.getElem_cons_zero, List.getElem_cons_succ])
    (try rw [if_pos (by kernel_rfl)])
    go_simp
    (try dsimp only)
    refine hK.out _ _ ?_ (fun hHeld => ?_)
    · exact ⟨((set7_keep _ (by show b ≠ w.heap.size + 1 + 1; omega)).trans ((set3_keep _ (by show b ≠ w.heap.size + 1; omega)).trans ((set4_keep _ (by show b ≠ w.heap.size; omega)).trans u0))), ((set7_keep _ (by show b ≠ w.heap.size + 1 + 1; omega)).trans ((set3_keep _ (by show b ≠ w.heap.size + 1; omega)).trans ((set4_keep _ (by show b ≠ w.heap.size; omega)).trans u1))), ((set7_keep _ (by show b ≠ w.heap.size + 1 + 1; omega)).trans ((set3_keep _ (by show b ≠ w.heap.size + 1; omega)).trans ((set4_keep _ (by show b ≠ w.heap.size; omega)).trans u2))), ((set7_keep _ (by show b ≠ w.heap.size + 1 + 1; omega)).trans ((set3_keep _ (by show b ≠ w.heap.size + 1; omega)).trans ((set4_keep _ (by show b ≠ w.heap.size; omega)).trans u3))), ((set7_keep _ (by show bd ≠ w.heap.size + 1 + 1; omega)).trans ((set3_keep _ (by show bd ≠ w.heap.size + 1; omega)).trans ((set4_keep _ (by show bd ≠ w.heap.size; omega)).trans t0))), ((set7_keep _ (by show bd ≠ w.heap.size + 1 + 1; omega)).trans ((set3_keep _ (by show bd ≠ w.heap.size + 1; omega)).trans ((set4_keep _ (by show bd ≠ w.heap.size; omega)).trans t1))), ((set7_keep _ (by show bd ≠ w.heap.size + 1 + 1; omega)).trans ((set3_keep _ (by show bd ≠ w.heap.size + 1; omega)).trans ((set4_keep _ (by show bd ≠ w.heap.size; omega)).trans t2))), ((set7_keep _ (by show bp ≠ w.heap.size + 1 + 1; omega)).trans ((set3_keep _ (by show bp ≠ w.heap.size + 1; omega)).trans ((set4_keep _ (by show bp ≠ w.heap.size; omega)).trans p0))), ((set7_keep _ (by show bp ≠ w.heap.size + 1 + 1; omega)).trans ((set3_keep _ (by show bp ≠ w.heap.size + 1; omega)).trans ((set4_keep _ (by show bp ≠ w.heap.size; omega)).trans p1))), ((set7_keep _ (by show bp ≠ w.heap.size + 1 + 1; omega)).trans ((set3_keep _ (by show bp ≠ w.heap.size + 1; omega)).trans ((set4_keep _ (by show bp ≠ w.heap.size; omega)).trans p2))), ((set7_keep _ (by show bp ≠ w.heap.size + 1 + 1; omega)).trans ((set3_keep _ (by show bp ≠ w.heap.size + 1; omega)).trans ((set4_keep _ (by show bp ≠ w.heap.size; omega)).trans p3))), ((set7_keep _ (by show bp ≠ w.heap.size + 1 + 1; omega)).trans ((set3_keep _ (by show bp ≠ w.heap.size + 1; omega)).trans ((set4_keep _ (by show bp ≠ w.heap.size; omega)).trans p4))), ((set7_keep _ (by show bp ≠ w.heap.size + 1 + 1; omega)).trans ((set3_keep _ (by show bp ≠ w.heap.size + 1; omega)).trans ((set4_keep _ (by show bp ≠ w.heap.size; omega)).trans p5))), ((set7_keep _ (by show bp ≠ w.heap.size + 1 + 1; omega)).trans ((set3_keep _ (by show bp ≠ w.heap.size + 1; omega)).trans ((set4_keep _ (by show bp ≠ w.heap.size; omega)).trans p6))), by simpa using zc9, by simpa using zd9, by simpa using zp9⟩
    clear hK K hHeld
    (try simp only [Act.put, List.getElem_toArray, List.getElem_cons_zero, List.getElem_cons_succ, List.setIfInBounds_toArray, List.set_cons_zero, List.set_cons_succ])
    refine wpAnyH_done (by kernel_rfl) ?_ _
    clear a0 a1 a2 a3 a4 a5 a6 g0 g1 g2 g3 g4 g5 g6 u0 u1 u2 u3 t0 t1 t2 p0 p1 p2 p3 p4 p5 p6 zc9 zd9 zp9
    have FX := Lib.hid (fin_of (y := y) (m := m) (d := d) (mo := (n1 : Int)) (te := te) (ix := (K0 : Int)) (da := da) (wk := we) (wd := wd) (cc := cc2) K9.out I9.out (by omega))
    obtain ⟨wZ, hwZ⟩ : ∃ W, fin3 wA w.heap.size nm A1 A2 L2 n1 n2 c1 c2 l2 cc2 we y m d (n1 : Int) te (K0 : Int) da we wd = W := ⟨_, rfl⟩
    rw [hwZ] at FX
    unfold fin3 at hwZ
    rw [hwZ]
    clear hwZ
    obtain ⟨zx, x0, x1, x2, x3⟩ := FX.out.xc
    obtain ⟨e0, e1, e2, -⟩ := FX.out.xd
    obtain ⟨q0, q1, q2, q3, q4, q5, q6, -⟩ := FX.out.xp
    have zy := FX.out.xd.lt
    have zz := FX.out.xp.lt
    go_wp2
    refine bodyPost_ret (v := stV nm A1 A2 L2 n1 n2 c1 c2 l2 cc2 we y m d (n1 : Int) te (K0 : Int) da we wd) ?_ rfl ⟨⟨nm, A1, A2, n1, n2, c1, c2, ms, rs, we, y, m, d, L2, l2, cc2, zs2, te, K0, da, wd, rfl, Tri.more FX.out.xm.1 (Nat.le_refl _), Tri.more FX.out.xr.1 (Nat.le_refl _), hc1, hc2, HV.out, hdo, FX.out.xz.1, hl, hcc, HVP.out⟩, below_only (Below.refl _ _) FX.out.gb (Nat.le_refl _) l15⟩
    simp [results, Try.results7, stV, go_sem, *]
end Go.Proofs.Ytmbdedkelckedaa
