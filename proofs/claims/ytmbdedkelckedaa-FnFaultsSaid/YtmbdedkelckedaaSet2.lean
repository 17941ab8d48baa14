/- The reference's SetPerpetual: a work that shows a day. No conditions but that there are at most 2^20 months, rules and levels. -/
import Derived.Test.YtmbdedkelckedaaSet
import Derived.Deep.DeepCutAuto
import Derived.StillTailTactics
namespace Go.Proofs.Ytmbdedkelckedaa
open Go.RowKit
set_option linter.unusedVariables false
set_option linter.unusedSimpArgs false
theorem l00Max_any (a b : Int) (w : World) : Calls Try.prog 101 #[.int .i64 a, .int .i64 b] w fun e w' => e = .returned (.int .i64 (max a b)) ∧ w = w' := by
  by_cases h : b < a
  · have e : max a b = a := by omega
    rw [e]
    go_enter Try.func101, Try.ntmps101
    go_wp2
    go_ret
    exact ⟨rfl, rfl⟩
  · have e : max a b = b := by omega
    rw [e]
    go_enter Try.func101, Try.ntmps101
    go_wp2
    go_ret
    exact ⟨rfl, rfl⟩
theorem work_set7 {W : World} {g : Nat} {S0 : Value} {a b c d e f : Int} (h : Work W g S0 a b c d e f) (S : Value) (mo te ix da we wd : Int) : Work (((((((W.setCell ⟨g, 0, none⟩ S).setCell ⟨g, 1, none⟩ (.int .i64 mo)).setCell ⟨g, 2, none⟩ (.int .i64 te)).setCell ⟨g, 3, none⟩ (.int .i64 ix)).setCell ⟨g, 4, none⟩ (.int .i64 da)).setCell ⟨g, 5, none⟩ (.int .i64 we)).setCell ⟨g, 6, none⟩ (.int .i64 wd)) g S mo te ix da we wd := by
  obtain ⟨h0, h1, h2, h3, h4, h5, h6, h7⟩ := h
  refine ⟨?_, ?_, ?_, ?_, ?_, ?_, ?_, fun o => by simp [h7 o]⟩ <;> simp [go_sem, h0, h1, h2, h3, h4, h5, h6]
theorem Work.set2 {W : World} {g : Nat} {S : Value} {a b c d e f : Int} (h : Work W g S a b c d e f) (v : Int) : Work (W.setCell ⟨g, 2, none⟩ (.int .i64 v)) g S a v c d e f := by
  obtain ⟨h0, h1, h2, h3, h4, h5, h6, h7⟩ := h
  refine ⟨?_, ?_, ?_, ?_, ?_, ?_, ?_, fun o => by simp [h7 o]⟩ <;> simp [go_sem, h0, h1, h2, h3, h4, h5, h6]
theorem Work.set3 {W : World} {g : Nat} {S : Value} {a b c d e f : Int} (h : Work W g S a b c d e f) (v : Int) : Work (W.setCell ⟨g, 3, none⟩ (.int .i64 v)) g S a b v d e f := by
  obtain ⟨h0, h1, h2, h3, h4, h5, h6, h7⟩ := h
  refine ⟨?_, ?_, ?_, ?_, ?_, ?_, ?_, fun o => by simp [h7 o]⟩ <;> simp [go_sem, h0, h1, h2, h3, h4, h5, h6]
theorem SW.grown {w W W' : World} {nm : ByteArray} {A A' : Option Addr} {n n' c c' g : Nat} {cw y m d : Int} (h : SW w W nm A A' n n' c c' cw y m d) (hg : W.grownBy W' (some g)) (h2 : w.heap.size + 1 + 1 < g) : SW w W' nm A A' n n' c c' cw y m d :=
  ⟨h.cal.grown hg (by omega), h.dt.grown hg (by omega), h.rs.keep (hg.block _ h.rs.lt (fun e => by have := Option.some.inj e; omega)), below_only h.bl hg h.bl.size (by omega)⟩
theorem own_but {w w' : World} {base g n c : Nat} {A : Option Addr} {zs : List Int} (h : Own w base A n c zs) (ne : ∀ ad, A = some ad → ad.block ≠ g) (hk : ∀ b, base ≤ b → b < w.heap.size → b ≠ g → w'.heap[b]? = w.heap[b]?) : Own w' base A n c zs := by
  rcases h.form with ⟨h0, h1, h2⟩ | ⟨q, h0, hb, hq⟩
  · subst h0 h1 h2
    have hl := h.len
    obtain rfl : zs = [] := List.eq_nil_of_length_eq_zero hl
    exact Own.nil_
  · have hqg := ne _ h0
    subst h0
    refine ⟨h.1, ?_⟩
    rcases h.2 with ⟨h1, _⟩ | ⟨g2, cap, cur, e2, hb2, hg, hr⟩
    · simp at h1
    · refine .inr ⟨g2, cap, cur, e2, hb2, ?_, hr⟩
      injection e2 with e3
      injection e3 with e3
      injection e3 with e3
      subst e3
      rw [hk q hb hq (by simpa using hqg)]
      exact hg
theorem l00Max_still (a b : Int) (w : World) : Calls Try.prog 101 #[.int .i64 a, .int .i64 b] w fun e w' => e = .returned (.int .i64 (max a b)) ∧ w' = w := (l00Max_any a b w).mono fun _ _ h => ⟨h.1, h.2.symm⟩
set_option maxRecDepth 8000 in
set_option maxHeartbeats 4000000 in
theorem specSetPerpetual_any (nm : ByteArray) (A A' L : Option Addr) (n n' c c' l e B : Nat) (ms : List Mth) (rs : List Rul) (cw : Int) (zs : List Int) (y m d wk : Int) (w : World) (h : Months w B A n ms) (h' : Rules w B A' n' rs) (hI : Ints w B L l zs) (hB : B ≤ w.heap.size) (hn : n ≤ 1048576) (hn' : n' ≤ 1048576) (hl : l ≤ 1048576) (hw : ∀ j, j < n' → -9223372036854775808 ≤ (rs.getD j r0).ev) :
    Calls Try.prog 65 #[.agg #[.string nm, .slice A n c, .slice A' n' c', .int .i64 cw], .slice L l e, .agg #[.int .i64 y, .int .i64 m, .int .i64 d], .int .i64 wk] w (NewPerp w (rSet nm n n' ms rs cw zs l y m d wk)) := by
  have H := Lib.hid (Tri.more h hB)
  have H' := Lib.hid (Tri.more h' hB)
  have HI := Lib.hid (hI.more hB)
  have F0 := Lib.hid (SW.start w 27 29 32 nm A A' n n' c c' cw y m d)
  clear h h' hI
  have cA := fun (W : World) (hC : CalAt W w.heap.size nm A A' n n' c c' cw) (hb : Below w.heap.size w W) => l17Ask_any w.heap.size nm A A' L n n' c c' l e w.heap.size ms rs cw zs W hC (Tri.below H.out hb) (Tri.below H'.out hb) (Ints.below HI.out hb) hb.size hn hn' hl hw
  obtain ⟨v, hv⟩ : ∃ v, askV nm n n' ms rs cw zs l = v := ⟨_, rfl⟩
  rw [hv] at cA
  have CA := Lib.hid cA
  clear cA hw
  by_cases h0 : v = 0
  · subst h0
    obtain ⟨k1, k2, k3⟩ := ask_yes hv
    have cD := fun (W : World) (hC : CalAt W w.heap.size nm A A' n n' c c' cw) (hb : Below w.heap.size w W) => l16Ok_any w.heap.size nm A A' n n' c c' w.heap.size ms rs cw y m d W hC (Tri.below H.out hb) (Tri.below H'.out hb) hb.size (by omega) (by omega) (vCal_ev k1)
    cases v3 : dOk ms rs n n' y m d
    · rw [rSet_far hv (by rw [v3]; rfl)]
      rw [v3] at cD
      have CD := Lib.hid cD
      clear cD v3 hv k1 k2 k3
      go_enter Try.func65, Try.ntmps65
      go_wp2_with fail
      go_at_call 99
      refine (CA.out _ F0.out.cal F0.out.bl).mono ?_
      rintro e1 w1 ⟨rfl, hb1⟩
      have F1 := Lib.hid (F0.out.call hb1)
      clear hb1
      obtain ⟨-, u0, u1, u2, u3⟩ := F1.out.cal
      obtain ⟨t0, t1, t2, -⟩ := F1.out.dt
      obtain ⟨p0, p1, p2, p3, p4, p5, p6, pf⟩ := F1.out.rs
      have f0 := pf 0
      have f1 := pf 1
      have f2 := pf 2
      have f3 := pf 3
      have f4 := pf 4
      have f5 := pf 5
      have f6 := pf 6
      clear pf
      go_wp2_with fail
      go_at_call 40
      refine (CD.out _ F1.out.cal F1.out.bl).mono ?_
      rintro e1 w2 ⟨rfl, hb2⟩
      have F2 := Lib.hid (F1.out.call hb2)
      clear hb2 u0 u1 u2 u3 t0 t1 t2 p0 p1 p2 p3 p4 p5 p6 f0 f1 f2 f3 f4 f5 f6
      obtain ⟨-, u0, u1, u2, u3⟩ := F2.out.cal
      obtain ⟨t0, t1, t2, -⟩ := F2.out.dt
      obtain ⟨p0, p1, p2, p3, p4, p5, p6, pf⟩ := F2.out.rs
      have f0 := pf 0
      have f1 := pf 1
      have f2 := pf 2
      have f3 := pf 3
      have f4 := pf 4
      have f5 := pf 5
      have f6 := pf 6
      clear pf
      go_wp2
      refine bodyPost_ret (v := badV 2) ?_ rfl (newPerp_bad ?_)
      · simp [results, Try.results65, go_sem, badV, *]
      · have := F2.out.bl
        (repeat (first | with_reducible exact Below.refl _ _ | with_reducible refine below_alloc ?_ _ | with_reducible refine below_drewN ?_ _ | with_reducible refine Below.drew ?_ | ((with_reducible refine below_set ?_ ?_ _); rotate_left; (focus (first | (simp; done) | (simp; omega) | omega))) | with_reducible refine below_call ?_ (by assumption)))
    rw [v3] at cD
    have CD := Lib.hid cD
    cases v4 : inB wk 1 cw
    · rw [rSet_far hv (by rw [v3, v4]; rfl)]
      have Y := Lib.hid v4
      clear cD v3 hv k1 k2 k3 v4
      go_enter Try.func65, Try.ntmps65
      go_wp2_with fail
      go_at_call 99
      refine (CA.out _ F0.out.cal F0.out.bl).mono ?_
      rintro e1 w1 ⟨rfl, hb1⟩
      have F1 := Lib.hid (F0.out.call hb1)
      clear hb1
      obtain ⟨-, u0, u1, u2, u3⟩ := F1.out.cal
      obtain ⟨t0, t1, t2, -⟩ := F1.out.dt
      obtain ⟨p0, p1, p2, p3, p4, p5, p6, pf⟩ := F1.out.rs
      have f0 := pf 0
      have f1 := pf 1
      have f2 := pf 2
      have f3 := pf 3
      have f4 := pf 4
      have f5 := pf 5
      have f6 := pf 6
      clear pf
      go_wp2_with fail
      go_at_call 40
      refine (CD.out _ F1.out.cal F1.out.bl).mono ?_
      rintro e1 w2 ⟨rfl, hb2⟩
      have F2 := Lib.hid (F1.out.call hb2)
      clear hb2 u0 u1 u2 u3 t0 t1 t2 p0 p1 p2 p3 p4 p5 p6 f0 f1 f2 f3 f4 f5 f6
      obtain ⟨-, u0, u1, u2, u3⟩ := F2.out.cal
      obtain ⟨t0, t1, t2, -⟩ := F2.out.dt
      obtain ⟨p0, p1, p2, p3, p4, p5, p6, pf⟩ := F2.out.rs
      have f0 := pf 0
      have f1 := pf 1
      have f2 := pf 2
      have f3 := pf 3
      have f4 := pf 4
      have f5 := pf 5
      have f6 := pf 6
      clear pf
      go_wp2_with (go_at_call 54; refine (l00In_val _ _ _ _ _ Y.out).mono ?_; rintro e w' ⟨rfl, rfl⟩)
      refine bodyPost_ret (v := badV 2) ?_ rfl (newPerp_bad ?_)
      · simp [results, Try.results65, go_sem, badV, *]
      · have := F2.out.bl
        (repeat (first | with_reducible exact Below.refl _ _ | with_reducible refine below_alloc ?_ _ | with_reducible refine below_drewN ?_ _ | with_reducible refine Below.drew ?_ | ((with_reducible refine below_set ?_ ?_ _); rotate_left; (focus (first | (simp; done) | (simp; omega) | omega))) | with_reducible refine below_call ?_ (by assumption)))
    rw [rSet_ok hv (by rw [v3, v4]; rfl)]
    have Y := Lib.hid v4
    obtain ⟨⟨y0, y1⟩, ⟨m1, m2⟩, d1, d2⟩ := dOk_yes v3
    obtain ⟨-, -, -, hmo, ⟨n1, n2⟩, -, -⟩ := vCal_yes k1
    obtain ⟨z1, z2, z3⟩ := vCam_yes k2
    rw [HI.out.len] at z1 z2 z3
    obtain ⟨q1, q2, a0, a1, b0, b1⟩ := setIx_bd k3 z2 z3 n1 y0 m1 m2
    have hsi : setIx l n y m = y % ((l / n : Nat) : Int) * (n : Int) + m - 1 := rfl
    have cO := fun (W : World) (hb : Below w.heap.size w W) => l00Own_any L l e w.heap.size zs W (Ints.below HI.out hb) hb.size z2 hl
    have t2 := nat_tdiv l n
    have t1 : y.tmod ((l / n : Nat) : Int) = y % ((l / n : Nat) : Int) := Int.tmod_eq_emod_of_nonneg y0
    rw [hsi]
    generalize ((l / n : Nat) : Int) = Q at *
    generalize y % Q = R at *
    obtain ⟨P, hP⟩ : ∃ P, R * (n : Int) = P := ⟨_, rfl⟩
    rw [hP] at b0 b1 ⊢
    have CO := Lib.hid cO
    have HZ1 := Lib.hid z1
    have HMO := Lib.hid hmo
    have CD := Lib.hid cD
    have e0 : ¬ (Q = 0) := by omega
    have e1 : (Q == 0) = false := by simpa using e0
    have e2 : ¬ ((n : Int) = 0) := by omega
    have e3 : ((n : Int) == 0) = false := by rw [beq_eq_false_iff_ne]; omega
    have s0 : IntKind.i64.wrap Q = Q := IntWalk.i64_in _ (by omega)
    have s1 : IntKind.i64.wrap R = R := IntWalk.i64_in _ (by omega)
    have s2 : IntKind.i64.wrap (R * (n : Int)) = P := by rw [hP]; exact IntWalk.i64_in _ (by omega)
    have s3 : IntKind.i64.wrap (P + m) = P + m := IntWalk.i64_in _ (by omega)
    have s4 : IntKind.i64.wrap (P + m - 1) = P + m - 1 := IntWalk.i64_in _ (by omega)
    have s5 : IntKind.i64.wrap P = P := IntWalk.i64_in _ (by omega)
    clear cD v3 hv k1 k2 k3 v4 cO hsi z1 hmo
    go_enter Try.func65, Try.ntmps65
    go_wp2_with fail
    go_at_call 99
    refine (CA.out _ F0.out.cal F0.out.bl).mono ?_
    rintro e1 w1 ⟨rfl, hb1⟩
    have F1 := Lib.hid (F0.out.call hb1)
    clear hb1
    obtain ⟨-, u0, u1, u2, u3⟩ := F1.out.cal
    obtain ⟨t0, t1, t2, -⟩ := F1.out.dt
    obtain ⟨p0, p1, p2, p3, p4, p5, p6, pf⟩ := F1.out.rs
    have f0 := pf 0
    have f1 := pf 1
    have f2 := pf 2
    have f3 := pf 3
    have f4 := pf 4
    have f5 := pf 5
    have f6 := pf 6
    clear pf
    go_wp2_with fail
    go_at_call 40
    refine (CD.out _ F1.out.cal F1.out.bl).mono ?_
    rintro e1 w2 ⟨rfl, hb2⟩
    have F2 := Lib.hid (F1.out.call hb2)
    clear hb2 u0 u1 u2 u3 t0 t1 t2 p0 p1 p2 p3 p4 p5 p6 f0 f1 f2 f3 f4 f5 f6
    obtain ⟨-, u0, u1, u2, u3⟩ := F2.out.cal
    obtain ⟨t0, t1, t2, -⟩ := F2.out.dt
    obtain ⟨p0, p1, p2, p3, p4, p5, p6, pf⟩ := F2.out.rs
    have f0 := pf 0
    have f1 := pf 1
    have f2 := pf 2
    have f3 := pf 3
    have f4 := pf 4
    have f5 := pf 5
    have f6 := pf 6
    clear pf
    clear p0 p1 p2 p3 p4 p5 p6 f0 f1 f2 f3 f4 f5 f6
    go_wp2_with (first | (go_at_call 54; refine (l00In_val _ _ _ _ _ Y.out).mono ?_; rintro e w' ⟨rfl, rfl⟩) | fail)
    go_cut [12] (fun p wx => ∃ g L4 c4, p = .pointer (some ⟨g, 0, none⟩) ∧ w2.heap.size ≤ g ∧ Hid (Work wx g (.slice L4 l c4) n 0 0 d cw wk) ∧ Hid (Own wx w2.heap.size L4 l c4 zs) ∧ Hid (∀ ad, L4 = some ad → ad.block ≠ g) ∧ Hid (Below w2.heap.size w2 wx))
    case first =>
      have BL := F2.out.bl
      have yr := Below.refl w2.heap.size w2
      have x2 := F2.out.rs.lt
      have x0 : w.heap.size < w2.heap.size := by omega
      have x1 : w.heap.size + 1 < w2.heap.size := by omega
      clear yr
      refine wp_region_held_drew (S := (fun w' => w'.cell? ⟨w.heap.size, 0, none⟩ = some (.string nm) ∧ w'.cell? ⟨w.heap.size, 1, none⟩ = some (.slice A n c) ∧ w'.cell? ⟨w.heap.size, 2, none⟩ = some (.slice A' n' c') ∧ w'.cell? ⟨w.heap.size, 3, none⟩ = some (.int .i64 cw) ∧ w'.cell? ⟨w.heap.size + 1, 0, none⟩ = some (.int .i64 y) ∧ w'.cell? ⟨w.heap.size + 1, 1, none⟩ = some (.int .i64 m) ∧ w'.cell? ⟨w.heap.size + 1, 2, none⟩ = some (.int .i64 d) ∧ w.heap.size < w'.heap.size ∧ w.heap.size + 1 < w'.heap.size ∧ Below w.heap.size w w')) (by kernel_rfl) ?_ (fun hHeld => ?_)
      · (try dsimp only); (first | ((try go_split_ands); (try dsimp only); refine ⟨?_, ?_, ?_, ?_, ?_, ?_, ?_, ?_, ?_, ?_⟩ <;> first | (exact cell_call (by assumption) (by assumption) (by assumption)) | (exact lt_call (by assumption) (by assumption)) | (exact below_call' (by assumption) (by assumption)) | (exact Below.drew (by assumption)) | (with_reducible assumption) | (simp; done) | (simp [*]; done) | ((repeat (first | with_reducible exact Below.refl _ _ | with_reducible refine below_alloc ?_ _ | with_reducible refine below_drewN ?_ _ | with_reducible refine Below.drew ?_ | ((with_reducible refine below_set ?_ ?_ _); rotate_left; (focus (first | (simp; done) | (simp; omega) | omega))) | with_reducible refine below_call ?_ (by assumption))); done) | omega | (simp; omega) | (simp [go_sem]; done) | (simp [go_sem, *]; done)))
      (refine wpAnyH_take (i := 0) (v := ?_) rfl (by kernel_rfl) (by kernel_rfl) (by kernel_rfl) (fun _ _ _ h => h) (Or.inl ⟨by kernel_rfl, ?_⟩) (by assumption) ?_; rotate_left; (focus (intro w hSw; (try dsimp only at hSw); go_simp; (try with_reducible rfl))); (try simp only [Act.put, List.getElem_toArray, List.getElem_cons_zero, List.getElem_cons_succ, List.setIfInBounds_toArray, List.set_cons_zero, List.set_cons_succ]))
      (refine wpAnyH_take (i := 2) (v := ?_) rfl (by kernel_rfl) (by kernel_rfl) (by kernel_rfl) (fun _ _ _ h => h) (Or.inl ⟨by kernel_rfl, ?_⟩) (by assumption) ?_; rotate_left; (focus (intro w hSw; (try dsimp only at hSw); go_simp; (try with_reducible rfl))); (try simp only [Act.put, List.getElem_toArray, List.getElem_cons_zero, List.getElem_cons_succ, List.setIfInBounds_toArray, List.set_cons_zero, List.set_cons_succ]))
      (refine wpAnyH_take (i := 3) (v := ?_) rfl (by kernel_rfl) (by kernel_rfl) (by kernel_rfl) (fun _ _ _ h => h) (Or.inl ⟨by kernel_rfl, ?_⟩) (by assumption) ?_; rotate_left; (focus (intro w hSw; (try dsimp only at hSw); go_simp; (try with_reducible rfl))); (try simp only [Act.put, List.getElem_toArray, List.getElem_cons_zero, List.getElem_cons_succ, List.setIfInBounds_toArray, List.set_cons_zero, List.set_cons_succ]))
      (refine wpAnyH_take (i := 4) (v := ?_) rfl (by kernel_rfl) (by kernel_rfl) (by kernel_rfl) (fun _ _ _ h => h) (Or.inl ⟨by kernel_rfl, ?_⟩) (by assumption) ?_; rotate_left; (focus (intro w hSw; (try dsimp only at hSw); go_simp; (try with_reducible rfl))); (try simp only [Act.put, List.getElem_toArray, List.getElem_cons_zero, List.getElem_cons_succ, List.setIfInBounds_toArray, List.set_cons_zero, List.set_cons_succ]))
      (refine wpAnyH_take (i := 5) (v := ?_) rfl (by kernel_rfl) (by kernel_rfl) (by kernel_rfl) (fun _ _ _ h => h) (Or.inl ⟨by kernel_rfl, ?_⟩) (by assumption) ?_; rotate_left; (focus (intro w hSw; (try dsimp only at hSw); go_simp; (try with_reducible rfl))); (try simp only [Act.put, List.getElem_toArray, List.getElem_cons_zero, List.getElem_cons_succ, List.setIfInBounds_toArray, List.set_cons_zero, List.set_cons_succ]))
      (refine wpAnyH_take (i := 6) (v := ?_) rfl (by kernel_rfl) (by kernel_rfl) (by kernel_rfl) (fun _ _ _ h => h) (Or.inl ⟨by kernel_rfl, ?_⟩) (by assumption) ?_; rotate_left; (focus (intro w hSw; (try dsimp only at hSw); go_simp; (try with_reducible rfl))); (try simp only [Act.put, List.getElem_toArray, List.getElem_cons_zero, List.getElem_cons_succ, List.setIfInBounds_toArray, List.set_cons_zero, List.set_cons_succ]))
      (refine wpAnyH_take (i := 7) (v := ?_) rfl (by kernel_rfl) (by kernel_rfl) (by kernel_rfl) (fun _ _ _ h => h) (Or.inl ⟨by kernel_rfl, ?_⟩) (by assumption) ?_; rotate_left; (focus (intro w hSw; (try dsimp only at hSw); go_simp; (try with_reducible rfl))); (try simp only [Act.put, List.getElem_toArray, List.getElem_cons_zero, List.getElem_cons_succ, List.setIfInBounds_toArray, List.set_cons_zero, List.set_cons_succ]))
      refine wpAnyH_ready (rs := [1, 9]) (by kernel_rfl) (by simp) ?_
      refine AllReadyH.cons rfl (fun K hK => ?_) (AllReadyH.cons rfl (fun K hK => ?_) (AllReadyH.nil))
      · ((try simp only [List.getElem_toArray, List.getElem_cons_zero, List.getElem_cons_succ]); (try rw [if_pos (by kernel_rfl)]); go_simp; (go_at_call 100; refine (CO.out _ (by go_split_ands; assumption)).mono ?_; rintro e1 w4 ⟨L4, c4, rfl, ho4, hb4⟩; have HO4 := Lib.hid ho4; clear ho4); (try dsimp only); refine hK.out _ _ ?_ (fun hHeld => ?_); (focus ((try dsimp only); (first | ((try go_split_ands); (try dsimp only); refine ⟨?_, ?_, ?_, ?_, ?_, ?_, ?_, ?_, ?_, ?_⟩ <;> first | (exact cell_call (by assumption) (by assumption) (by assumption)) | (exact lt_call (by assumption) (by assumption)) | (exact below_call' (by assumption) (by assumption)) | (exact Below.drew (by assumption)) | (with_reducible assumption) | (simp; done) | (simp [*]; done) | ((repeat (first | with_reducible exact Below.refl _ _ | with_reducible refine below_alloc ?_ _ | with_reducible refine below_drewN ?_ _ | with_reducible refine Below.drew ?_ | ((with_reducible refine below_set ?_ ?_ _); rotate_left; (focus (first | (simp; done) | (simp; omega) | omega))) | with_reducible refine below_call ?_ (by assumption))); done) | omega | (simp; omega) | (simp [go_sem]; done) | (simp [go_sem, *]; done))))); clear hK K; (try simp only [Act.put, List.getElem_toArray, List.getElem_cons_zero, List.getElem_cons_succ, List.setIfInBounds_toArray, List.set_cons_zero, List.set_cons_succ]))
        (refine wpAnyH_take (i := 8) (v := ?_) rfl (by kernel_rfl) (by kernel_rfl) (by kernel_rfl) (fun _ _ _ h => h) (Or.inl ⟨by kernel_rfl, ?_⟩) (by assumption) ?_; rotate_left; (focus (intro w hSw; (try dsimp only at hSw); go_simp; (try with_reducible rfl))); (try simp only [Act.put, List.getElem_toArray, List.getElem_cons_zero, List.getElem_cons_succ, List.setIfInBounds_toArray, List.set_cons_zero, List.set_cons_succ]))
        refine wpAnyH_ready (rs := [9]) (by kernel_rfl) (by simp) ?_
        refine AllReadyH.cons rfl (fun K hK => ?_) (AllReadyH.nil)
        (try simp only [List.getElem_toArray, List.getElem_cons_zero, List.getElem_cons_succ])
        (try rw [if_pos (by kernel_rfl)])
        go_simp
        refine hK.out _ _ ?_ (fun hHeld => ?_)
        · go_split_ands
          refine ⟨?_, ?_, ?_, ?_, ?_, ?_, ?_, ?_, ?_, ?_⟩ <;> first | exact cell_call ((Below.refl _ _).alloc (Nat.le_refl _) _) (by assumption) (by assumption) | exact lt_call ((Below.refl _ _).alloc (Nat.le_refl _) _) (by assumption) | exact below_alloc (by assumption) _
        clear hK K
        (try simp only [Act.put, List.getElem_toArray, List.getElem_cons_zero, List.getElem_cons_succ, List.setIfInBounds_toArray, List.set_cons_zero, List.set_cons_succ])
        refine wpAnyH_ready (rs := [10]) (by kernel_rfl) (by simp) ?_
        refine AllReadyH.cons rfl (fun K hK => ?_) (AllReadyH.nil)
        (try simp only [List.getElem_toArray, List.getElem_cons_zero, List.getElem_cons_succ])
        (try rw [if_pos (by kernel_rfl)])
        go_simp
        refine hK.out _ _ ?_ (fun hHeld => ?_)
        · go_split_ands
          refine ⟨?_, ?_, ?_, ?_, ?_, ?_, ?_, ?_, ?_, ?_⟩ <;> first | exact cell_call ((Below.refl _ _).alloc (Nat.le_refl _) _) (by assumption) (by assumption) | exact lt_call ((Below.refl _ _).alloc (Nat.le_refl _) _) (by assumption) | exact below_alloc (by assumption) _
        clear hK K
        (try simp only [Act.put, List.getElem_toArray, List.getElem_cons_zero, List.getElem_cons_succ, List.setIfInBounds_toArray, List.set_cons_zero, List.set_cons_succ])
        refine wpAnyH_done (by kernel_rfl) ?_ _
        go_wp2_with fail
        go_meet
        have O4 := OwnIn.of HO4.out
        have yb4 : Below w4.heap.size w4 (w4.alloc (.cells #[.slice L4 l c4, .int .i64 n, .int .i64 0, .int .i64 0, .int .i64 d, .int .i64 cw, .int .i64 wk] 32)) := (Below.refl _ _).alloc (Nat.le_refl _) _
        have z4 := hb4.size
        exact ⟨w4.heap.size, L4, c4, rfl, z4, Lib.hid (work_new _ _ _ _ _ _ _ _ _), Lib.hid (Own.call HO4.out yb4), Lib.hid (fun ad e => Nat.ne_of_lt (O4.2 ad e)), Lib.hid ((show Below w2.heap.size w2 w4 from ⟨hb4.os, hb4.tape, hb4.output, hb4.size, hb4.block⟩).trans (yb4.mono z4))⟩
      · (try simp only [List.getElem_toArray, List.getElem_cons_zero, List.getElem_cons_succ])
        (try rw [if_pos (by kernel_rfl)])
        go_simp
        refine hK.out _ _ ?_ (fun hHeld => ?_)
        · go_split_ands
          refine ⟨?_, ?_, ?_, ?_, ?_, ?_, ?_, ?_, ?_, ?_⟩ <;> first | exact cell_call ((Below.refl _ _).alloc (Nat.le_refl _) _) (by assumption) (by assumption) | exact lt_call ((Below.refl _ _).alloc (Nat.le_refl _) _) (by assumption) | exact below_alloc (by assumption) _
        clear hK K
        (try simp only [Act.put, List.getElem_toArray, List.getElem_cons_zero, List.getElem_cons_succ, List.setIfInBounds_toArray, List.set_cons_zero, List.set_cons_succ])
        refine wpAnyH_ready (rs := [1]) (by kernel_rfl) (by simp) ?_
        refine AllReadyH.cons rfl (fun K hK => ?_) (AllReadyH.nil)
        ((try simp only [List.getElem_toArray, List.getElem_cons_zero, List.getElem_cons_succ]); (try rw [if_pos (by kernel_rfl)]); go_simp; (go_at_call 100; refine (CO.out _ (by go_split_ands; assumption)).mono ?_; rintro e1 w4 ⟨L4, c4, rfl, ho4, hb4⟩; have HO4 := Lib.hid ho4; clear ho4); (try dsimp only); refine hK.out _ _ ?_ (fun hHeld => ?_); (focus ((try dsimp only); (first | ((try go_split_ands); (try dsimp only); refine ⟨?_, ?_, ?_, ?_, ?_, ?_, ?_, ?_, ?_, ?_⟩ <;> first | (exact cell_call (by assumption) (by assumption) (by assumption)) | (exact lt_call (by assumption) (by assumption)) | (exact below_call' (by assumption) (by assumption)) | (exact Below.drew (by assumption)) | (with_reducible assumption) | (simp; done) | (simp [*]; done) | ((repeat (first | with_reducible exact Below.refl _ _ | with_reducible refine below_alloc ?_ _ | with_reducible refine below_drewN ?_ _ | with_reducible refine Below.drew ?_ | ((with_reducible refine below_set ?_ ?_ _); rotate_left; (focus (first | (simp; done) | (simp; omega) | omega))) | with_reducible refine below_call ?_ (by assumption))); done) | omega | (simp; omega) | (simp [go_sem]; done) | (simp [go_sem, *]; done))))); clear hK K; (try simp only [Act.put, List.getElem_toArray, List.getElem_cons_zero, List.getElem_cons_succ, List.setIfInBounds_toArray, List.set_cons_zero, List.set_cons_succ]))
        (refine wpAnyH_take (i := 8) (v := ?_) rfl (by kernel_rfl) (by kernel_rfl) (by kernel_rfl) (fun _ _ _ h => h) (Or.inl ⟨by kernel_rfl, ?_⟩) (by assumption) ?_; rotate_left; (focus (intro w hSw; (try dsimp only at hSw); go_simp; (try with_reducible rfl))); (try simp only [Act.put, List.getElem_toArray, List.getElem_cons_zero, List.getElem_cons_succ, List.setIfInBounds_toArray, List.set_cons_zero, List.set_cons_succ]))
        have WG : Work w4 w2.heap.size (.slice none 0 0) 0 0 0 0 0 0 := (work_new w2.drew 32 (.slice none 0 0) 0 0 0 0 0 0).call hb4
        have WG2 := Lib.hid WG
        obtain ⟨p0, p1, p2, p3, p4, p5, p6, pf⟩ := WG
        have f0 := pf 0
        have f1 := pf 1
        have f2 := pf 2
        have f3 := pf 3
        have f4 := pf 4
        have f5 := pf 5
        have f6 := pf 6
        clear pf
        refine wpAnyH_ready (rs := [10]) (by kernel_rfl) (by simp) ?_
        refine AllReadyH.cons rfl (fun K hK => ?_) (AllReadyH.nil)
        (try simp only [List.getElem_toArray, List.getElem_cons_zero, List.getElem_cons_succ])
        (try rw [if_pos (by kernel_rfl)])
        go_simp
        refine hK.out _ _ ?_ (fun hHeld => ?_)
        · go_split_ands
          refine ⟨?_, ?_, ?_, ?_, ?_, ?_, ?_, ?_, ?_, ?_⟩ <;> first | (refine Eq.trans (World.cell?_of_block (set7_heap _ ?_)) ?_ <;> first | assumption | (dsimp only; omega)) | exact below_set7 (by assumption) (by omega) | (simp; assumption)
        clear hK K
        (try simp only [Act.put, List.getElem_toArray, List.getElem_cons_zero, List.getElem_cons_succ, List.setIfInBounds_toArray, List.set_cons_zero, List.set_cons_succ])
        refine wpAnyH_done (by kernel_rfl) ?_ _
        go_wp2_with fail
        go_meet
        have z4 := hb4.size
        have O4 := OwnIn.of HO4.out
        have zz : w2.drew.heap.size + 1 ≤ w4.heap.size := by simpa using z4
        have zy : w2.heap.size + 1 ≤ w4.heap.size := zz
        have hlo : ∀ ad, L4 = some ad → w2.heap.size + 1 ≤ ad.block := fun ad e => by
          rcases HO4.out.form with ⟨h0, _⟩ | ⟨g', h0, hg', _⟩
          · rw [h0] at e; cases e
          · rw [h0] at e
            injection e with e
            have e2 := congrArg Addr.block e
            simp at hg' e2
            omega
        have bq : Below w2.heap.size w2 w4 := (show Below w2.heap.size w2 (w2.drew.alloc (.cells #[.slice none 0 0, .int .i64 0, .int .i64 0, .int .i64 0, .int .i64 0, .int .i64 0, .int .i64 0] 32)) from (Below.drew (Below.refl _ _)).alloc (Nat.le_refl _) _).trans (hb4.mono (by simp))
        exact ⟨w2.heap.size, L4, c4, rfl, Nat.le_refl _, Lib.hid (work_set7 WG2.out _ _ _ _ _ _ _), Lib.hid (Own.low (OwnIn.keep O4 (fun b h1 h2 => set7_heap _ (by simp at h1; omega))).1 (by simp)), Lib.hid (fun ad e => by have := hlo ad e; omega), Lib.hid (below_set7 bq (Nat.le_refl _))⟩
    case rest =>
      obtain ⟨g, L4, c4, rfl, hg, WK, OI, NE, BW⟩ := hcut
      revert WK OI NE BW
      generalize wc = W3
      intro WK OI NE BW
      have FC := Lib.hid (F2.out.call BW.out)
      have x2 := F2.out.rs.lt
      have xg : w.heap.size + 1 + 1 < g := by omega
      clear u0 u1 u2 u3 t0 t1 t2
      obtain ⟨t0, t1, t3, -⟩ := FC.out.dt
      obtain ⟨p0, p1, p2, p3, p4, p5, p6, pf⟩ := WK.out
      have f3 := pf 3
      clear pf
      go_wp2_with fail
      go_cut [12] (fun p wx => p = .pointer (some ⟨g, 0, none⟩) ∧ Hid (Work wx g (.slice L4 l c4) n 0 (P + m - 1) d cw wk) ∧ Hid (W3.grownBy wx (some g)))
      case first =>
        go_region
        all_goals
          go_wp2_with fail
          go_meet
          exact ⟨rfl, Lib.hid ((show Work W3.drew g (.slice L4 l c4) n 0 0 d cw wk from WK.out).set3 _), Lib.hid (only_setCell (only_drew (World.grownBy.refl _ _)) (.inl rfl) _)⟩
      case rest =>
        obtain ⟨rfl, WK1, HG1⟩ := hcut
        clear p0 p1 p2 p3 p4 p5 p6 f3 t0 t1 t3
        go_wp2
        go_loopw [13] (fun t wr => ∃ k : Nat, t = .int .i64 k ∧ k ≤ l ∧ Hid (Work wr g (.slice L4 l c4) n (cgK zs k) (P + m - 1) d cw wk) ∧ Hid (W3.grownBy wr (some g))) (fun t _ => l - (intOf t).toNat)
        case atStart => exact ⟨0, rfl, Nat.zero_le _, WK1, HG1⟩
        case round =>
          obtain ⟨k, rfl, hk, WK2, HG2⟩ := hrel
          have FK := Lib.hid (FC.out.grown HG2.out xg)
          have BK := FK.out.bl
          have i0 : (0 : Int) ≤ (k : Int) := Int.natCast_nonneg _
          by_cases hlt : k < l
          · have i1 : (k : Int) < (l : Int) := by omega
            obtain ⟨b, off, rfl, hbl, hcz⟩ := (Ints.below HI.out BK).at_ hlt
            have hst : cgK zs (k + 1) = max (cgK zs k) (zs.getD k 0) := rfl
            generalize zs.getD k 0 = x at *
            generalize cgK zs k = T at *
            have HST := Lib.hid hst
            obtain ⟨p0, p1, p2, p3, p4, p5, p6, pf⟩ := WK2.out
            have f2 := pf 2
            clear pf hst
            go_wp2
            go_region_with (first | (go_at_call 101; refine (l00Max_any _ _ _).mono ?_; rintro e1 w' ⟨rfl, rfl⟩))
            all_goals
              go_wp2
              go_roundw
              case rel => exact ⟨k + 1, by go_num, by omega, Lib.hid (by rw [HST.out]; exact (show Work wr.drew g (.slice L4 l c4) n T (P + m - 1) d cw wk from WK2.out).set2 _), Lib.hid (only_setCell (only_drew HG2.out) (.inl rfl) _)⟩
              case measure => simp [intOf]; omega
          · obtain rfl : k = l := by omega
            obtain ⟨-, u0, u1, u2, u3⟩ := FK.out.cal
            have HCG := Lib.hid (show cgK zs k = maxK zs (k - 1) by
              have h0 := (HZ1.out 0 (by omega)).1
              have h1 := cgK_max (zs := zs) (by omega) (k - 1)
              rwa [show k - 1 + 1 = k by omega] at h1)
            rw [HCG.out] at WK2
            generalize maxK zs (k - 1) = T0 at *
            go_wp2
            clear u0 u1 u2 u3
            go_loopw [14] (fun t wr => ∃ j : Nat, t = .int .i64 j ∧ j ≤ n ∧ Hid (Work wr g (.slice L4 k c4) n (teK ms T0 j) (P + m - 1) d cw wk) ∧ Hid (W3.grownBy wr (some g))) (fun t _ => n - (intOf t).toNat)
            case atStart => exact ⟨0, rfl, Nat.zero_le _, WK2, HG2⟩
            case round =>
              clear FK BK
              obtain ⟨j, rfl, hj, WK3, HG3⟩ := hrel
              have FK := Lib.hid (FC.out.grown HG3.out xg)
              have BK := FK.out.bl
              have j0 : (0 : Int) ≤ (j : Int) := Int.natCast_nonneg _
              obtain ⟨-, u0, u1, u2, u3⟩ := FK.out.cal
              obtain ⟨p0, p1, p2, p3, p4, p5, p6, pf⟩ := WK3.out
              by_cases hlt2 : j < n
              · have j1 : (j : Int) < (n : Int) := by omega
                obtain ⟨b, off, rfl, hbl, c1, c2, c3⟩ := Months.at_ (Tri.below H.out BK) hlt2
                have hst : teK ms T0 (j + 1) = max (max (teK ms T0 j) (ms.getD j m0).dy) (ms.getD j m0).lp := rfl
                generalize ms.getD j m0 = x at *
                generalize teK ms T0 j = T at *
                have HST := Lib.hid (hst.trans (show max (max T x.dy) x.lp = max T (max x.dy x.lp) by omega))
                have f2 := pf 2
                clear pf hst p0 p1 p3 p4 p5 p6 u0 u2 u3 c1
                go_wp2
                refine wp_region_still_tail 16 (by kernel_rfl) (by kernel_rfl) ?_
                simp only [List.take_succ_cons, List.take_zero, List.drop_succ_cons, List.drop_zero]
                repeat still_step
                still_call (l00Max_still _ _ _)
                still_call (l00Max_still _ _ _)
                refine wpStill_nil ?_
                change wpList _ _ _ _ _ wr.drew
                have k2 : wr.drew.cell? ⟨g, 2, none⟩ = some (.int .i64 T) := p2
                have k3 : wr.drew.frozen? ⟨g, 2, none⟩ = false := f2
                go_wp2
                go_roundw
                case rel => exact ⟨j + 1, by go_num, by omega, Lib.hid (by rw [HST.out]; exact (show Work wr.drew g (.slice L4 k c4) n T (P + m - 1) d cw wk from WK3.out).set2 _), Lib.hid (only_setCell (only_drew HG3.out) (.inl rfl) _)⟩
                case measure => simp [intOf]; omega
              · obtain rfl : j = n := by omega
                obtain ⟨r0, r1, r2, r3, r4, r5, r6, rf⟩ := FK.out.rs
                have f0 := rf 0
                have f1 := rf 1
                have f2 := rf 2
                have f3 := rf 3
                have f4 := rf 4
                have f5 := rf 5
                have f6 := rf 6
                clear pf rf
                go_wp2
                refine bodyPost_ret (v := .tuple #[.agg #[.slice L4 k c4, .int .i64 j, .int .i64 (teK ms T0 j), .int .i64 (P + m - 1), .int .i64 d, .int .i64 cw, .int .i64 wk], .int .i64 0]) ?_ rfl ⟨L4, c4, rfl, ?_, below_set7 BK (by omega)⟩
                · simp [results, Try.results65, go_sem, r0, r1, r2, r3, r4, r5, r6]
                · have OI2 := OwnIn.of OI.out
                  have hb : ∀ b, w2.heap.size ≤ b → b < W3.heap.size → b ≠ g → (((((((wr.setCell ⟨w.heap.size + 1 + 1, 0, none⟩ (.slice L4 k c4)).setCell ⟨w.heap.size + 1 + 1, 1, none⟩ (.int .i64 j)).setCell ⟨w.heap.size + 1 + 1, 2, none⟩ (.int .i64 (teK ms T0 j))).setCell ⟨w.heap.size + 1 + 1, 3, none⟩ (.int .i64 (P + m - 1))).setCell ⟨w.heap.size + 1 + 1, 4, none⟩ (.int .i64 d)).setCell ⟨w.heap.size + 1 + 1, 5, none⟩ (.int .i64 cw)).setCell ⟨w.heap.size + 1 + 1, 6, none⟩ (.int .i64 wk)).heap[b]? = W3.heap[b]? := fun b h1 h2 h3 => (set7_heap wr (by omega)).trans (HG3.out.block b h2 (fun e => h3 (Option.some.inj e)))
                  exact Own.low (own_but OI.out NE.out hb) (by omega)
  · rw [rSet_bad hv h0]
    have e0 : (v != 0) = true := by simpa using h0
    clear hv
    go_enter Try.func65, Try.ntmps65
    go_wp2_with fail
    go_at_call 99
    refine (CA.out _ F0.out.cal F0.out.bl).mono ?_
    rintro e1 w1 ⟨rfl, hb1⟩
    have F1 := Lib.hid (F0.out.call hb1)
    clear hb1
    obtain ⟨-, u0, u1, u2, u3⟩ := F1.out.cal
    obtain ⟨t0, t1, t2, -⟩ := F1.out.dt
    obtain ⟨p0, p1, p2, p3, p4, p5, p6, pf⟩ := F1.out.rs
    have f0 := pf 0
    have f1 := pf 1
    have f2 := pf 2
    have f3 := pf 3
    have f4 := pf 4
    have f5 := pf 5
    have f6 := pf 6
    clear pf
    go_wp2
    refine bodyPost_ret (v := badV v) ?_ rfl (newPerp_bad ?_)
    · simp [results, Try.results65, go_sem, badV, *]
    · have := F1.out.bl
      (repeat (first | with_reducible exact Below.refl _ _ | with_reducible refine below_alloc ?_ _ | with_reducible refine below_drewN ?_ _ | with_reducible refine Below.drew ?_ | ((with_reducible refine below_set ?_ ?_ _); rotate_left; (focus (first | (simp; done) | (simp; omega) | omega))) | with_reducible refine below_call ?_ (by assumption)))
end Go.Proofs.Ytmbdedkelckedaa
