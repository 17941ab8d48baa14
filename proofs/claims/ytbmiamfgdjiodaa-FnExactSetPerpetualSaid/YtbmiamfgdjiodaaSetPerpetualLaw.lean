/- The law FnExactSetPerpetual returns true: the program's SetPerpetual is the reference's, it leaves its arguments as they were and gives memory of its own. No conditions. -/
import Derived.Test.YtbmiamfgdjiodaaResKit
import Derived.Test.YtbmiamfgdjiodaaOpenCal
import Derived.Deep.DeepCutAuto
namespace Go.Proofs.Ytbmiamfgdjiodaa.fnExactSetPerpetual
open Go.ChangeShapes Go.WideShapes Go.ChangeAt Go.RowKit
set_option linter.unusedVariables false
set_option linter.unusedSimpArgs false
theorem below_ad {a w : World} (h : Below a.heap.size a w.drew) (o : Obj) : Below a.heap.size a (w.alloc o).drew := Below.drew (below_alloc (show Below a.heap.size a w from ⟨h.os, h.tape, h.output, h.size, h.block⟩) o)
set_option maxRecDepth 8000 in
set_option maxHeartbeats 16000000 in
theorem walk (nm : ByteArray) (A A' : Option Addr) (n n' c c' : Nat) (ms : List Mth) (rs : List Rul) (cw : Int) (L : Option Addr) (l e : Nat) (zs : List Int) (y m d wk : Int) (w : World) (hR : CameCal w nm A A' n n' c c' ms rs cw) (hP : Came w L l e zs) (wy : (Lit.int .i64 y).wf = true) (wm : (Lit.int .i64 m).wf = true) (wd' : (Lit.int .i64 d).wf = true) (wn : (Lit.int .i64 wk).wf = true) :
    Calls Try.prog 5 #[.agg #[.string nm, .slice A n c, .slice A' n' c', .int .i64 cw], .slice L l e, .agg #[.int .i64 y, .int .i64 m, .int .i64 d], .int .i64 wk] w fun e w' => e = .returned (.bool true) ∧ Below w.heap.size w w' := by
  obtain ⟨hI, hl9, -⟩ := hP
  have H := Lib.hid hR.m
  have H' := Lib.hid hR.r
  have HI := Lib.hid hI
  have hn := hR.hn
  have hn' := hR.hn'
  have HNM := Lib.hid hR.hnm
  have HGM := Lib.hid (fun j (hj : j < n) => (hR.gm j hj).1)
  have HRW := Lib.hid (fun j (hj : j < n') => (wf_lo (hR.gr j hj).1).1)
  have F0 := Lib.hid (LD.start w 25 48 nm A A' n n' c c' cw y m d)
  have CS := Lib.hid (fun (W : World) (hb : Below w.heap.size w W) => szCalendar_any nm A A' n n' c c' w.heap.size ms cw 1048576 W (Tri.below H.out hb) hb.size (by omega) (by omega) hn hn' HNM.out HGM.out)
  clear hR hI wy wm wd' wn
  by_cases hle : (1048576 : Int) < (l : Int)
  · go_enter Try.func5, Try.ntmps5
    go_wp2
    go_ret
    exact ⟨rfl, F0.out.bl⟩
  · have hl2 : l ≤ 1048576 := by omega
    have hlen := rSet_len nm n n' ms rs cw zs l y m d wk hl2
    go_enter Try.func5, Try.ntmps5
    go_wp2_with fail
    go_at_call 7
    refine (CS.out _ F0.out.bl).mono ?_
    rintro e1 W1 ⟨r, rfl, hb1, hr⟩
    have LD1 := Lib.hid (F0.out.call hb1)
    have LDL : Hid (w.heap.size + 1 + 1 ≤ W1.heap.size) := Lib.hid (by have := F0.out.dt.lt; have := LD1.out.dt.lt; omega)
    clear hb1
    have HR := Lib.hid hr
    clear hr
    rcases HR.out with hr | hr
    · subst hr
      go_wp2
      go_ret
      exact ⟨rfl, LD1.out.bl⟩
    obtain ⟨r00, r01, -, hcn, hcn', -⟩ := hr
    have q2 : ¬ (r < 0) := by omega
    have c1 := fun (W : World) (g1 g1' : Option Addr) (L : Option Addr) (h : Months W W.heap.size g1 n ms) (h' : Rules W W.heap.size g1' n' rs) (hI : Ints W W.heap.size L l zs) => specSetPerpetual_any nm g1 g1' L n n' n n' l l W.heap.size ms rs cw zs y m d wk W h h' hI (Nat.le_refl _) hcn hcn' hl2 HRW.out
    have c2 := fun (W : World) (g1 g1' : Option Addr) (L : Option Addr) (h : Months W W.heap.size g1 n ms) (h' : Rules W W.heap.size g1' n' rs) (hI : Ints W W.heap.size L l zs) => SetPerpetual_any nm g1 g1' L n n' n n' l l W.heap.size ms rs cw zs y m d wk W h h' hI (Nat.le_refl _) (Nat.le_refl _) hcn hcn' hl2
    generalize rSet nm n n' ms rs cw zs l y m d wk = R at *
    obtain ⟨mm, G, r1, r2, r3, r4, r5, r6, cd⟩ := R
    have hmm : mm ≤ 1048576 := hlen
    have C1 := Lib.hid c1
    have C2 := Lib.hid c2
    have CT := Lib.hid (fun (W : World) (hb : Below w.heap.size w W) => toCalendar_any nm A A' n n' c c' w.heap.size ms rs cw W (Tri.below H.out hb) (Tri.below H'.out hb) hb.size hcn hcn')
    have IT := Lib.hid (fun (W : World) (hb : Below w.heap.size w W) => (toInt64S_any L l e w.heap.size zs W (Ints.below HI.out hb) hb.size hl2).mono (fun e1 w1 (h : _ ∧ _ ∧ _) => (show ∃ L4, e1 = .returned (.slice L4 l l) ∧ Own w1 W.heap.size L4 l l zs ∧ Below W.heap.size W w1 from ⟨_, h.1, h.2.1, h.2.2⟩)))
    clear c1 c2 hlen CS HR
    go_upto_region 7 with fail
    go_cut [10, 11] (fun p q wx => q = .int .i64 cd ∧ Res W1 wx p mm G r1 r2 r3 r4 r5 r6)
    case first =>
      obtain ⟨zc, u0, u1, u2, u3⟩ := LD1.out.cal
      obtain ⟨t0, t1, t2, -⟩ := LD1.out.dt
      have zd := LD1.out.dt.lt
      have yb := LD1.out.bl
      have yr := Below.refl W1.heap.size W1
      refine wp_region_held_drew (S := (fun w' => w'.cell? ⟨w.heap.size, 0, none⟩ = some (.string nm) ∧ w'.cell? ⟨w.heap.size, 1, none⟩ = some (.slice A n c) ∧ w'.cell? ⟨w.heap.size, 2, none⟩ = some (.slice A' n' c') ∧ w'.cell? ⟨w.heap.size, 3, none⟩ = some (.int .i64 cw) ∧ w'.cell? ⟨w.heap.size + 1, 0, none⟩ = some (.int .i64 y) ∧ w'.cell? ⟨w.heap.size + 1, 1, none⟩ = some (.int .i64 m) ∧ w'.cell? ⟨w.heap.size + 1, 2, none⟩ = some (.int .i64 d) ∧ w.heap.size < w'.heap.size ∧ w.heap.size + 1 < w'.heap.size ∧ Below w.heap.size w w' ∧ Below W1.heap.size W1 w')) (by kernel_rfl) ?_ (fun hHeld => ?_)
      · (try dsimp only); (first | ((try go_split_ands); (try dsimp only); refine ⟨?_, ?_, ?_, ?_, ?_, ?_, ?_, ?_, ?_, ?_, ?_⟩ <;> first | (exact cell_call (by assumption) (by assumption) (by assumption)) | (exact lt_call (by assumption) (by assumption)) | (exact below_call' (by assumption) (by assumption)) | (exact Below.drew (by assumption)) | (with_reducible assumption) | (simp; done) | (simp [*]; done) | ((repeat (first | with_reducible exact Below.refl _ _ | with_reducible refine below_alloc ?_ _ | with_reducible refine below_drewN ?_ _ | with_reducible refine Below.drew ?_ | ((with_reducible refine below_set ?_ ?_ _); rotate_left; (focus (first | (simp; done) | (simp; omega) | omega))) | with_reducible refine below_call ?_ (by assumption))); done) | omega | (simp; omega) | (simp [go_sem]; done) | (simp [go_sem, *]; done)))
      (refine wpAnyH_take (i := 0) (v := ?_) rfl (by kernel_rfl) (by kernel_rfl) (by kernel_rfl) (fun _ _ _ h => h) (Or.inl ⟨by kernel_rfl, ?_⟩) (by assumption) ?_; rotate_left; (focus (intro w hSw; (try dsimp only at hSw); go_simp; (try with_reducible rfl))); (try simp only [Act.put, List.getElem_toArray, List.getElem_cons_zero, List.getElem_cons_succ, List.setIfInBounds_toArray, List.set_cons_zero, List.set_cons_succ]))
      (refine wpAnyH_take (i := 2) (v := ?_) rfl (by kernel_rfl) (by kernel_rfl) (by kernel_rfl) (fun _ _ _ h => h) (Or.inl ⟨by kernel_rfl, ?_⟩) (by assumption) ?_; rotate_left; (focus (intro w hSw; (try dsimp only at hSw); go_simp; (try with_reducible rfl))); (try simp only [Act.put, List.getElem_toArray, List.getElem_cons_zero, List.getElem_cons_succ, List.setIfInBounds_toArray, List.set_cons_zero, List.set_cons_succ]))
      (refine wpAnyH_take (i := 4) (v := ?_) rfl (by kernel_rfl) (by kernel_rfl) (by kernel_rfl) (fun _ _ _ h => h) (Or.inl ⟨by kernel_rfl, ?_⟩) (by assumption) ?_; rotate_left; (focus (intro w hSw; (try dsimp only at hSw); go_simp; (try with_reducible rfl))); (try simp only [Act.put, List.getElem_toArray, List.getElem_cons_zero, List.getElem_cons_succ, List.setIfInBounds_toArray, List.set_cons_zero, List.set_cons_succ]))
      (refine wpAnyH_take (i := 6) (v := ?_) rfl (by kernel_rfl) (by kernel_rfl) (by kernel_rfl) (fun _ _ _ h => h) (Or.inl ⟨by kernel_rfl, ?_⟩) (by assumption) ?_; rotate_left; (focus (intro w hSw; (try dsimp only at hSw); go_simp; (try with_reducible rfl))); (try simp only [Act.put, List.getElem_toArray, List.getElem_cons_zero, List.getElem_cons_succ, List.setIfInBounds_toArray, List.set_cons_zero, List.set_cons_succ]))
      refine wpAnyH_ready (rs := [1, 11]) (by kernel_rfl) (by simp) ?_
      refine AllReadyH.cons rfl (fun K hK => ?_) (AllReadyH.cons rfl (fun K hK => ?_) (AllReadyH.nil))
      · ((try simp only [List.getElem_toArray, List.getElem_cons_zero, List.getElem_cons_succ]); (try rw [if_pos (by kernel_rfl)]); go_simp; (go_at_call 9; refine (CT.out _ (by go_split_ands; assumption)).mono ?_; rintro e1 w3 ⟨g3, k3, rfl, ho3, hb3⟩; have O3 := Lib.hid ho3; clear ho3); (try dsimp only); refine hK.out _ _ ?_ (fun hHeld => ?_); (focus ((try dsimp only); (first | ((try go_split_ands); (try dsimp only); refine ⟨?_, ?_, ?_, ?_, ?_, ?_, ?_, ?_, ?_, ?_, ?_⟩ <;> first | (exact cell_call (by assumption) (by assumption) (by assumption)) | (exact lt_call (by assumption) (by assumption)) | (exact below_call' (by assumption) (by assumption)) | (exact Below.drew (by assumption)) | (with_reducible assumption) | (simp; done) | (simp [*]; done) | ((repeat (first | with_reducible exact Below.refl _ _ | with_reducible refine below_alloc ?_ _ | with_reducible refine below_drewN ?_ _ | with_reducible refine Below.drew ?_ | ((with_reducible refine below_set ?_ ?_ _); rotate_left; (focus (first | (simp; done) | (simp; omega) | omega))) | with_reducible refine below_call ?_ (by assumption))); done) | omega | (simp; omega) | (simp [go_sem]; done) | (simp [go_sem, *]; done))))); clear hK K; (try simp only [Act.put, List.getElem_toArray, List.getElem_cons_zero, List.getElem_cons_succ, List.setIfInBounds_toArray, List.set_cons_zero, List.set_cons_succ]))
        have BZ1 := Lib.hid (show Below W1.heap.size W1 w3 by go_split_ands; assumption)
        refine wpAnyH_ready (rs := [3, 11]) (by kernel_rfl) (by simp) ?_
        refine AllReadyH.cons rfl (fun K hK => ?_) (AllReadyH.cons rfl (fun K hK => ?_) (AllReadyH.nil))
        · ((try simp only [List.getElem_toArray, List.getElem_cons_zero, List.getElem_cons_succ]); (try rw [if_pos (by kernel_rfl)]); go_simp; (go_at_call 17; refine (IT.out _ (by go_split_ands; assumption)).mono ?_; rintro e1 w4 ⟨L4, rfl, ho4, hb4⟩; have O4 := Lib.hid ho4; clear ho4); (try dsimp only); refine hK.out _ _ ?_ (fun hHeld => ?_); (focus ((try dsimp only); (first | ((try go_split_ands); (try dsimp only); refine ⟨?_, ?_, ?_, ?_, ?_, ?_, ?_, ?_, ?_, ?_, ?_⟩ <;> first | (exact cell_call (by assumption) (by assumption) (by assumption)) | (exact lt_call (by assumption) (by assumption)) | (exact below_call' (by assumption) (by assumption)) | (exact Below.drew (by assumption)) | (with_reducible assumption) | (simp; done) | (simp [*]; done) | ((repeat (first | with_reducible exact Below.refl _ _ | with_reducible refine below_alloc ?_ _ | with_reducible refine below_drewN ?_ _ | with_reducible refine Below.drew ?_ | ((with_reducible refine below_set ?_ ?_ _); rotate_left; (focus (first | (simp; done) | (simp; omega) | omega))) | with_reducible refine below_call ?_ (by assumption))); done) | omega | (simp; omega) | (simp [go_sem]; done) | (simp [go_sem, *]; done))))); clear hK K; (try simp only [Act.put, List.getElem_toArray, List.getElem_cons_zero, List.getElem_cons_succ, List.setIfInBounds_toArray, List.set_cons_zero, List.set_cons_succ]))
          have BZ2 := Lib.hid (show Below W1.heap.size W1 w4 by go_split_ands; assumption)
          refine wpAnyH_ready (rs := [5, 11]) (by kernel_rfl) (by simp) ?_
          refine AllReadyH.cons rfl (fun K hK => ?_) (AllReadyH.cons rfl (fun K hK => ?_) (AllReadyH.nil))
          · ((try simp only [List.getElem_toArray, List.getElem_cons_zero, List.getElem_cons_succ]); (try rw [if_pos (by kernel_rfl)]); go_simp; (go_at_call 23; refine (toDate_any _ _ _ _).mono ?_; rintro e1 w5 ⟨rfl, hb5⟩); (try dsimp only); refine hK.out _ _ ?_ (fun hHeld => ?_); (focus ((try dsimp only); (first | ((try go_split_ands); (try dsimp only); refine ⟨?_, ?_, ?_, ?_, ?_, ?_, ?_, ?_, ?_, ?_, ?_⟩ <;> first | (exact cell_call (by assumption) (by assumption) (by assumption)) | (exact lt_call (by assumption) (by assumption)) | (exact below_call' (by assumption) (by assumption)) | (exact Below.drew (by assumption)) | (with_reducible assumption) | (simp; done) | (simp [*]; done) | ((repeat (first | with_reducible exact Below.refl _ _ | with_reducible refine below_alloc ?_ _ | with_reducible refine below_drewN ?_ _ | with_reducible refine Below.drew ?_ | ((with_reducible refine below_set ?_ ?_ _); rotate_left; (focus (first | (simp; done) | (simp; omega) | omega))) | with_reducible refine below_call ?_ (by assumption))); done) | omega | (simp; omega) | (simp [go_sem]; done) | (simp [go_sem, *]; done))))); clear hK K; (try simp only [Act.put, List.getElem_toArray, List.getElem_cons_zero, List.getElem_cons_succ, List.setIfInBounds_toArray, List.set_cons_zero, List.set_cons_succ]))
            have BZ3 := Lib.hid (show Below W1.heap.size W1 w5 by go_split_ands; assumption)
            refine wpAnyH_ready (rs := [7, 11]) (by kernel_rfl) (by simp) ?_
            refine AllReadyH.cons rfl (fun K hK => ?_) (AllReadyH.cons rfl (fun K hK => ?_) (AllReadyH.nil))
            · ((try simp only [List.getElem_toArray, List.getElem_cons_zero, List.getElem_cons_succ]); (try rw [if_pos (by kernel_rfl)]); go_simp; (go_at_call 22; refine (C1.out _ _ _ _ (Own2.months (((O3.out).call hb4).call hb5)) (Own2.rules (((O3.out).call hb4).call hb5)) (Own.ints (Own.call (O4.out) hb5) (Nat.le_refl _))).mono ?_; rintro e1 w6 ⟨L6, c6, rfl, ho6, hb6⟩; have HO6 := Lib.hid ho6; clear ho6); (try dsimp only); refine hK.out _ _ ?_ (fun hHeld => ?_); (focus ((try dsimp only); (first | ((try go_split_ands); (try dsimp only); refine ⟨?_, ?_, ?_, ?_, ?_, ?_, ?_, ?_, ?_, ?_, ?_⟩ <;> first | (exact cell_call (by assumption) (by assumption) (by assumption)) | (exact lt_call (by assumption) (by assumption)) | (exact below_call' (by assumption) (by assumption)) | (exact Below.drew (by assumption)) | (with_reducible assumption) | (simp; done) | (simp [*]; done) | ((repeat (first | with_reducible exact Below.refl _ _ | with_reducible refine below_alloc ?_ _ | with_reducible refine below_drewN ?_ _ | with_reducible refine Below.drew ?_ | ((with_reducible refine below_set ?_ ?_ _); rotate_left; (focus (first | (simp; done) | (simp; omega) | omega))) | with_reducible refine below_call ?_ (by assumption))); done) | omega | (simp; omega) | (simp [go_sem]; done) | (simp [go_sem, *]; done))))); clear hK K; (try simp only [Act.put, List.getElem_toArray, List.getElem_cons_zero, List.getElem_cons_succ, List.setIfInBounds_toArray, List.set_cons_zero, List.set_cons_succ]))
              have BZ4 := Lib.hid (show Below W1.heap.size W1 w6 by go_split_ands; assumption)
              (refine wpAnyH_take (i := 8) (v := ?_) rfl (by kernel_rfl) (by kernel_rfl) (by kernel_rfl) (fun _ _ _ h => h) (Or.inl ⟨by kernel_rfl, ?_⟩) (by assumption) ?_; rotate_left; (focus (intro w hSw; (try dsimp only at hSw); go_simp; (try with_reducible rfl))); (try simp only [Act.put, List.getElem_toArray, List.getElem_cons_zero, List.getElem_cons_succ, List.setIfInBounds_toArray, List.set_cons_zero, List.set_cons_succ]))
              (refine wpAnyH_take (i := 9) (v := ?_) rfl (by kernel_rfl) (by kernel_rfl) (by kernel_rfl) (fun _ _ _ h => h) (Or.inl ⟨by kernel_rfl, ?_⟩) (by assumption) ?_; rotate_left; (focus (intro w hSw; (try dsimp only at hSw); go_simp; (try with_reducible rfl))); (try simp only [Act.put, List.getElem_toArray, List.getElem_cons_zero, List.getElem_cons_succ, List.setIfInBounds_toArray, List.set_cons_zero, List.set_cons_succ]))
              (refine wpAnyH_take (i := 10) (v := ?_) rfl (by kernel_rfl) (by kernel_rfl) (by kernel_rfl) (fun _ _ _ h => h) (Or.inl ⟨by kernel_rfl, ?_⟩) (by assumption) ?_; rotate_left; (focus (intro w hSw; (try dsimp only at hSw); go_simp; (try with_reducible rfl))); (try simp only [Act.put, List.getElem_toArray, List.getElem_cons_zero, List.getElem_cons_succ, List.setIfInBounds_toArray, List.set_cons_zero, List.set_cons_succ]))
              refine wpAnyH_ready (rs := [11]) (by kernel_rfl) (by simp) ?_
              refine AllReadyH.cons rfl (fun K hK => ?_) (AllReadyH.nil)
              (try simp only [List.getElem_toArray, List.getElem_cons_zero, List.getElem_cons_succ])
              (try rw [if_pos (by kernel_rfl)])
              go_simp
              refine hK.out _ _ ?_ (fun hHeld => ?_)
              · go_split_ands
                refine ⟨?_, ?_, ?_, ?_, ?_, ?_, ?_, ?_, ?_, ?_, ?_⟩ <;> first | exact cell_call (alb _ _) (by assumption) (by assumption) | exact lt_call (alb _ _) (by assumption) | exact below_alloc (by assumption) _ | exact below_ad (by assumption) _
              clear hK K
              (try simp only [Act.put, List.getElem_toArray, List.getElem_cons_zero, List.getElem_cons_succ, List.setIfInBounds_toArray, List.set_cons_zero, List.set_cons_succ])
              refine wpAnyH_ready (rs := [12]) (by kernel_rfl) (by simp) ?_
              refine AllReadyH.cons rfl (fun K hK => ?_) (AllReadyH.nil)
              (try simp only [List.getElem_toArray, List.getElem_cons_zero, List.getElem_cons_succ])
              (try rw [if_pos (by kernel_rfl)])
              go_simp
              refine hK.out _ _ ?_ (fun hHeld => ?_)
              · go_split_ands
                refine ⟨?_, ?_, ?_, ?_, ?_, ?_, ?_, ?_, ?_, ?_, ?_⟩ <;> first | exact cell_call (alb _ _) (by assumption) (by assumption) | exact lt_call (alb _ _) (by assumption) | exact below_alloc (by assumption) _ | exact below_ad (by assumption) _
              clear hK K
              (try simp only [Act.put, List.getElem_toArray, List.getElem_cons_zero, List.getElem_cons_succ, List.setIfInBounds_toArray, List.set_cons_zero, List.set_cons_succ])
              (refine wpAnyH_take (i := 13) (v := ?_) rfl (by kernel_rfl) (by kernel_rfl) (by kernel_rfl) (fun _ _ _ h => h) (Or.inl ⟨by kernel_rfl, ?_⟩) (by assumption) ?_; rotate_left; (focus (intro w hSw; (try dsimp only at hSw); go_simp; (try with_reducible rfl))); (try simp only [Act.put, List.getElem_toArray, List.getElem_cons_zero, List.getElem_cons_succ, List.setIfInBounds_toArray, List.set_cons_zero, List.set_cons_succ]))
              refine wpAnyH_done (by kernel_rfl) ?_ _
              go_wp2_with fail
              go_meet
              exact ⟨rfl, res_new 50 HO6.out BZ3.out.size BZ4.out⟩
            · (try simp only [List.getElem_toArray, List.getElem_cons_zero, List.getElem_cons_succ])
              (try rw [if_pos (by kernel_rfl)])
              go_simp
              refine hK.out _ _ ?_ (fun hHeld => ?_)
              · go_split_ands
                refine ⟨?_, ?_, ?_, ?_, ?_, ?_, ?_, ?_, ?_, ?_, ?_⟩ <;> first | exact cell_call (alb _ _) (by assumption) (by assumption) | exact lt_call (alb _ _) (by assumption) | exact below_alloc (by assumption) _ | exact below_ad (by assumption) _
              clear hK K
              (try simp only [Act.put, List.getElem_toArray, List.getElem_cons_zero, List.getElem_cons_succ, List.setIfInBounds_toArray, List.set_cons_zero, List.set_cons_succ])
              refine wpAnyH_ready (rs := [7]) (by kernel_rfl) (by simp) ?_
              refine AllReadyH.cons rfl (fun K hK => ?_) (AllReadyH.nil)
              ((try simp only [List.getElem_toArray, List.getElem_cons_zero, List.getElem_cons_succ]); (try rw [if_pos (by kernel_rfl)]); go_simp; (go_at_call 22; refine (C1.out _ _ _ _ (Own2.months ((((O3.out).call hb4).call hb5).call (alb _ _))) (Own2.rules ((((O3.out).call hb4).call hb5).call (alb _ _))) (Own.ints (Own.call (Own.call (O4.out) hb5) (alb _ _)) (Nat.le_refl _))).mono ?_; rintro e1 w6 ⟨L6, c6, rfl, ho6, hb6⟩; have HO6 := Lib.hid ho6; clear ho6); (try dsimp only); refine hK.out _ _ ?_ (fun hHeld => ?_); (focus ((try dsimp only); (first | ((try go_split_ands); (try dsimp only); refine ⟨?_, ?_, ?_, ?_, ?_, ?_, ?_, ?_, ?_, ?_, ?_⟩ <;> first | (exact cell_call (by assumption) (by assumption) (by assumption)) | (exact lt_call (by assumption) (by assumption)) | (exact below_call' (by assumption) (by assumption)) | (exact Below.drew (by assumption)) | (with_reducible assumption) | (simp; done) | (simp [*]; done) | ((repeat (first | with_reducible exact Below.refl _ _ | with_reducible refine below_alloc ?_ _ | with_reducible refine below_drewN ?_ _ | with_reducible refine Below.drew ?_ | ((with_reducible refine below_set ?_ ?_ _); rotate_left; (focus (first | (simp; done) | (simp; omega) | omega))) | with_reducible refine below_call ?_ (by assumption))); done) | omega | (simp; omega) | (simp [go_sem]; done) | (simp [go_sem, *]; done))))); clear hK K; (try simp only [Act.put, List.getElem_toArray, List.getElem_cons_zero, List.getElem_cons_succ, List.setIfInBounds_toArray, List.set_cons_zero, List.set_cons_succ]))
              (refine wpAnyH_take (i := 8) (v := ?_) rfl (by kernel_rfl) (by kernel_rfl) (by kernel_rfl) (fun _ _ _ h => h) (Or.inl ⟨by kernel_rfl, ?_⟩) (by assumption) ?_; rotate_left; (focus (intro w hSw; (try dsimp only at hSw); go_simp; (try with_reducible rfl))); (try simp only [Act.put, List.getElem_toArray, List.getElem_cons_zero, List.getElem_cons_succ, List.setIfInBounds_toArray, List.set_cons_zero, List.set_cons_succ]))
              (refine wpAnyH_take (i := 9) (v := ?_) rfl (by kernel_rfl) (by kernel_rfl) (by kernel_rfl) (fun _ _ _ h => h) (Or.inl ⟨by kernel_rfl, ?_⟩) (by assumption) ?_; rotate_left; (focus (intro w hSw; (try dsimp only at hSw); go_simp; (try with_reducible rfl))); (try simp only [Act.put, List.getElem_toArray, List.getElem_cons_zero, List.getElem_cons_succ, List.setIfInBounds_toArray, List.set_cons_zero, List.set_cons_succ]))
              (refine wpAnyH_take (i := 10) (v := ?_) rfl (by kernel_rfl) (by kernel_rfl) (by kernel_rfl) (fun _ _ _ h => h) (Or.inl ⟨by kernel_rfl, ?_⟩) (by assumption) ?_; rotate_left; (focus (intro w hSw; (try dsimp only at hSw); go_simp; (try with_reducible rfl))); (try simp only [Act.put, List.getElem_toArray, List.getElem_cons_zero, List.getElem_cons_succ, List.setIfInBounds_toArray, List.set_cons_zero, List.set_cons_succ]))
              have BW : Below W1.heap.size W1 w6 := by go_split_ands; assumption
              have WG : Work w6 w5.heap.size (.slice none 0 0) 0 0 0 0 0 0 := (work_new w5 50 (.slice none 0 0) 0 0 0 0 0 0).call hb6
              have WG2 := Lib.hid WG
              have hgz : W1.heap.size ≤ w5.heap.size := by have hh := BZ3.out.size; exact hh
              obtain ⟨p0, p1, p2, p3, p4, p5, p6, pf⟩ := WG
              have f0 := pf 0
              have f1 := pf 1
              have f2 := pf 2
              have f3 := pf 3
              have f4 := pf 4
              have f5 := pf 5
              have f6 := pf 6
              clear pf
              refine wpAnyH_ready (rs := [12]) (by kernel_rfl) (by simp) ?_
              refine AllReadyH.cons rfl (fun K hK => ?_) (AllReadyH.nil)
              (try simp only [List.getElem_toArray, List.getElem_cons_zero, List.getElem_cons_succ])
              (try rw [if_pos (by kernel_rfl)])
              go_simp
              refine hK.out _ _ ?_ (fun hHeld => ?_)
              · go_split_ands
                refine ⟨?_, ?_, ?_, ?_, ?_, ?_, ?_, ?_, ?_, ?_, ?_⟩ <;> first | (refine Eq.trans (World.cell?_of_block (set7_heap _ ?_)) ?_ <;> first | assumption | (dsimp only; omega)) | exact below_set7 (by assumption) (by omega) | (simp; assumption)
              clear hK K
              (try simp only [Act.put, List.getElem_toArray, List.getElem_cons_zero, List.getElem_cons_succ, List.setIfInBounds_toArray, List.set_cons_zero, List.set_cons_succ])
              (refine wpAnyH_take (i := 13) (v := ?_) rfl (by kernel_rfl) (by kernel_rfl) (by kernel_rfl) (fun _ _ _ h => h) (Or.inl ⟨by kernel_rfl, ?_⟩) (by assumption) ?_; rotate_left; (focus (intro w hSw; (try dsimp only at hSw); go_simp; (try with_reducible rfl))); (try simp only [Act.put, List.getElem_toArray, List.getElem_cons_zero, List.getElem_cons_succ, List.setIfInBounds_toArray, List.set_cons_zero, List.set_cons_succ]))
              refine wpAnyH_done (by kernel_rfl) ?_ _
              go_wp2_with fail
              go_meet
              refine ⟨rfl, res_set WG2.out HO6.out ?_ hgz BW⟩
              refine Nat.lt_of_lt_of_le (show w5.heap.size < (w5.alloc (.cells #[.slice none 0 0, .int .i64 0, .int .i64 0, .int .i64 0, .int .i64 0, .int .i64 0, .int .i64 0] 50)).heap.size by simp) ?_
              exact Nat.le_refl _
          · (try simp only [List.getElem_toArray, List.getElem_cons_zero, List.getElem_cons_succ])
            (try rw [if_pos (by kernel_rfl)])
            go_simp
            refine hK.out _ _ ?_ (fun hHeld => ?_)
            · go_split_ands
              refine ⟨?_, ?_, ?_, ?_, ?_, ?_, ?_, ?_, ?_, ?_, ?_⟩ <;> first | exact cell_call (alb _ _) (by assumption) (by assumption) | exact lt_call (alb _ _) (by assumption) | exact below_alloc (by assumption) _ | exact below_ad (by assumption) _
            clear hK K
            (try simp only [Act.put, List.getElem_toArray, List.getElem_cons_zero, List.getElem_cons_succ, List.setIfInBounds_toArray, List.set_cons_zero, List.set_cons_succ])
            refine wpAnyH_ready (rs := [5]) (by kernel_rfl) (by simp) ?_
            refine AllReadyH.cons rfl (fun K hK => ?_) (AllReadyH.nil)
            ((try simp only [List.getElem_toArray, List.getElem_cons_zero, List.getElem_cons_succ]); (try rw [if_pos (by kernel_rfl)]); go_simp; (go_at_call 23; refine (toDate_any _ _ _ _).mono ?_; rintro e1 w5 ⟨rfl, hb5⟩); (try dsimp only); refine hK.out _ _ ?_ (fun hHeld => ?_); (focus ((try dsimp only); (first | ((try go_split_ands); (try dsimp only); refine ⟨?_, ?_, ?_, ?_, ?_, ?_, ?_, ?_, ?_, ?_, ?_⟩ <;> first | (exact cell_call (by assumption) (by assumption) (by assumption)) | (exact lt_call (by assumption) (by assumption)) | (exact below_call' (by assumption) (by assumption)) | (exact Below.drew (by assumption)) | (with_reducible assumption) | (simp; done) | (simp [*]; done) | ((repeat (first | with_reducible exact Below.refl _ _ | with_reducible refine below_alloc ?_ _ | with_reducible refine below_drewN ?_ _ | with_reducible refine Below.drew ?_ | ((with_reducible refine below_set ?_ ?_ _); rotate_left; (focus (first | (simp; done) | (simp; omega) | omega))) | with_reducible refine below_call ?_ (by assumption))); done) | omega | (simp; omega) | (simp [go_sem]; done) | (simp [go_sem, *]; done))))); clear hK K; (try simp only [Act.put, List.getElem_toArray, List.getElem_cons_zero, List.getElem_cons_succ, List.setIfInBounds_toArray, List.set_cons_zero, List.set_cons_succ]))
            refine wpAnyH_ready (rs := [7]) (by kernel_rfl) (by simp) ?_
            refine AllReadyH.cons rfl (fun K hK => ?_) (AllReadyH.nil)
            ((try simp only [List.getElem_toArray, List.getElem_cons_zero, List.getElem_cons_succ]); (try rw [if_pos (by kernel_rfl)]); go_simp; (go_at_call 22; refine (C1.out _ _ _ _ (Own2.months ((((O3.out).call hb4).call (alb _ _)).call hb5)) (Own2.rules ((((O3.out).call hb4).call (alb _ _)).call hb5)) (Own.ints (Own.call (Own.call (O4.out) (alb _ _)) hb5) (Nat.le_refl _))).mono ?_; rintro e1 w6 ⟨L6, c6, rfl, ho6, hb6⟩; have HO6 := Lib.hid ho6; clear ho6); (try dsimp only); refine hK.out _ _ ?_ (fun hHeld => ?_); (focus ((try dsimp only); (first | ((try go_split_ands); (try dsimp only); refine ⟨?_, ?_, ?_, ?_, ?_, ?_, ?_, ?_, ?_, ?_, ?_⟩ <;> first | (exact cell_call (by assumption) (by assumption) (by assumption)) | (exact lt_call (by assumption) (by assumption)) | (exact below_call' (by assumption) (by assumption)) | (exact Below.drew (by assumption)) | (with_reducible assumption) | (simp; done) | (simp [*]; done) | ((repeat (first | with_reducible exact Below.refl _ _ | with_reducible refine below_alloc ?_ _ | with_reducible refine below_drewN ?_ _ | with_reducible refine Below.drew ?_ | ((with_reducible refine below_set ?_ ?_ _); rotate_left; (focus (first | (simp; done) | (simp; omega) | omega))) | with_reducible refine below_call ?_ (by assumption))); done) | omega | (simp; omega) | (simp [go_sem]; done) | (simp [go_sem, *]; done))))); clear hK K; (try simp only [Act.put, List.getElem_toArray, List.getElem_cons_zero, List.getElem_cons_succ, List.setIfInBounds_toArray, List.set_cons_zero, List.set_cons_succ]))
            (refine wpAnyH_take (i := 8) (v := ?_) rfl (by kernel_rfl) (by kernel_rfl) (by kernel_rfl) (fun _ _ _ h => h) (Or.inl ⟨by kernel_rfl, ?_⟩) (by assumption) ?_; rotate_left; (focus (intro w hSw; (try dsimp only at hSw); go_simp; (try with_reducible rfl))); (try simp only [Act.put, List.getElem_toArray, List.getElem_cons_zero, List.getElem_cons_succ, List.setIfInBounds_toArray, List.set_cons_zero, List.set_cons_succ]))
            (refine wpAnyH_take (i := 9) (v := ?_) rfl (by kernel_rfl) (by kernel_rfl) (by kernel_rfl) (fun _ _ _ h => h) (Or.inl ⟨by kernel_rfl, ?_⟩) (by assumption) ?_; rotate_left; (focus (intro w hSw; (try dsimp only at hSw); go_simp; (try with_reducible rfl))); (try simp only [Act.put, List.getElem_toArray, List.getElem_cons_zero, List.getElem_cons_succ, List.setIfInBounds_toArray, List.set_cons_zero, List.set_cons_succ]))
            (refine wpAnyH_take (i := 10) (v := ?_) rfl (by kernel_rfl) (by kernel_rfl) (by kernel_rfl) (fun _ _ _ h => h) (Or.inl ⟨by kernel_rfl, ?_⟩) (by assumption) ?_; rotate_left; (focus (intro w hSw; (try dsimp only at hSw); go_simp; (try with_reducible rfl))); (try simp only [Act.put, List.getElem_toArray, List.getElem_cons_zero, List.getElem_cons_succ, List.setIfInBounds_toArray, List.set_cons_zero, List.set_cons_succ]))
            have BW : Below W1.heap.size W1 w6 := by go_split_ands; assumption
            have WG : Work w6 w4.heap.size (.slice none 0 0) 0 0 0 0 0 0 := ((work_new w4 50 (.slice none 0 0) 0 0 0 0 0 0).call hb5).call hb6
            have WG2 := Lib.hid WG
            have hgz : W1.heap.size ≤ w4.heap.size := by have hh := BZ2.out.size; exact hh
            obtain ⟨p0, p1, p2, p3, p4, p5, p6, pf⟩ := WG
            have f0 := pf 0
            have f1 := pf 1
            have f2 := pf 2
            have f3 := pf 3
            have f4 := pf 4
            have f5 := pf 5
            have f6 := pf 6
            clear pf
            refine wpAnyH_ready (rs := [12]) (by kernel_rfl) (by simp) ?_
            refine AllReadyH.cons rfl (fun K hK => ?_) (AllReadyH.nil)
            (try simp only [List.getElem_toArray, List.getElem_cons_zero, List.getElem_cons_succ])
            (try rw [if_pos (by kernel_rfl)])
            go_simp
            refine hK.out _ _ ?_ (fun hHeld => ?_)
            · go_split_ands
              refine ⟨?_, ?_, ?_, ?_, ?_, ?_, ?_, ?_, ?_, ?_, ?_⟩ <;> first | (refine Eq.trans (World.cell?_of_block (set7_heap _ ?_)) ?_ <;> first | assumption | (dsimp only; omega)) | exact below_set7 (by assumption) (by omega) | (simp; assumption)
            clear hK K
            (try simp only [Act.put, List.getElem_toArray, List.getElem_cons_zero, List.getElem_cons_succ, List.setIfInBounds_toArray, List.set_cons_zero, List.set_cons_succ])
            (refine wpAnyH_take (i := 13) (v := ?_) rfl (by kernel_rfl) (by kernel_rfl) (by kernel_rfl) (fun _ _ _ h => h) (Or.inl ⟨by kernel_rfl, ?_⟩) (by assumption) ?_; rotate_left; (focus (intro w hSw; (try dsimp only at hSw); go_simp; (try with_reducible rfl))); (try simp only [Act.put, List.getElem_toArray, List.getElem_cons_zero, List.getElem_cons_succ, List.setIfInBounds_toArray, List.set_cons_zero, List.set_cons_succ]))
            refine wpAnyH_done (by kernel_rfl) ?_ _
            go_wp2_with fail
            go_meet
            refine ⟨rfl, res_set WG2.out HO6.out ?_ hgz BW⟩
            refine Nat.lt_of_lt_of_le (show w4.heap.size < (w4.alloc (.cells #[.slice none 0 0, .int .i64 0, .int .i64 0, .int .i64 0, .int .i64 0, .int .i64 0, .int .i64 0] 50)).heap.size by simp) ?_
            exact hb5.size
        · (try simp only [List.getElem_toArray, List.getElem_cons_zero, List.getElem_cons_succ])
          (try rw [if_pos (by kernel_rfl)])
          go_simp
          refine hK.out _ _ ?_ (fun hHeld => ?_)
          · go_split_ands
            refine ⟨?_, ?_, ?_, ?_, ?_, ?_, ?_, ?_, ?_, ?_, ?_⟩ <;> first | exact cell_call (alb _ _) (by assumption) (by assumption) | exact lt_call (alb _ _) (by assumption) | exact below_alloc (by assumption) _ | exact below_ad (by assumption) _
          clear hK K
          (try simp only [Act.put, List.getElem_toArray, List.getElem_cons_zero, List.getElem_cons_succ, List.setIfInBounds_toArray, List.set_cons_zero, List.set_cons_succ])
          refine wpAnyH_ready (rs := [3]) (by kernel_rfl) (by simp) ?_
          refine AllReadyH.cons rfl (fun K hK => ?_) (AllReadyH.nil)
          ((try simp only [List.getElem_toArray, List.getElem_cons_zero, List.getElem_cons_succ]); (try rw [if_pos (by kernel_rfl)]); go_simp; (go_at_call 17; refine (IT.out _ (by go_split_ands; assumption)).mono ?_; rintro e1 w4 ⟨L4, rfl, ho4, hb4⟩; have O4 := Lib.hid ho4; clear ho4); (try dsimp only); refine hK.out _ _ ?_ (fun hHeld => ?_); (focus ((try dsimp only); (first | ((try go_split_ands); (try dsimp only); refine ⟨?_, ?_, ?_, ?_, ?_, ?_, ?_, ?_, ?_, ?_, ?_⟩ <;> first | (exact cell_call (by assumption) (by assumption) (by assumption)) | (exact lt_call (by assumption) (by assumption)) | (exact below_call' (by assumption) (by assumption)) | (exact Below.drew (by assumption)) | (with_reducible assumption) | (simp; done) | (simp [*]; done) | ((repeat (first | with_reducible exact Below.refl _ _ | with_reducible refine below_alloc ?_ _ | with_reducible refine below_drewN ?_ _ | with_reducible refine Below.drew ?_ | ((with_reducible refine below_set ?_ ?_ _); rotate_left; (focus (first | (simp; done) | (simp; omega) | omega))) | with_reducible refine below_call ?_ (by assumption))); done) | omega | (simp; omega) | (simp [go_sem]; done) | (simp [go_sem, *]; done))))); clear hK K; (try simp only [Act.put, List.getElem_toArray, List.getElem_cons_zero, List.getElem_cons_succ, List.setIfInBounds_toArray, List.set_cons_zero, List.set_cons_succ]))
          refine wpAnyH_ready (rs := [5]) (by kernel_rfl) (by simp) ?_
          refine AllReadyH.cons rfl (fun K hK => ?_) (AllReadyH.nil)
          ((try simp only [List.getElem_toArray, List.getElem_cons_zero, List.getElem_cons_succ]); (try rw [if_pos (by kernel_rfl)]); go_simp; (go_at_call 23; refine (toDate_any _ _ _ _).mono ?_; rintro e1 w5 ⟨rfl, hb5⟩); (try dsimp only); refine hK.out _ _ ?_ (fun hHeld => ?_); (focus ((try dsimp only); (first | ((try go_split_ands); (try dsimp only); refine ⟨?_, ?_, ?_, ?_, ?_, ?_, ?_, ?_, ?_, ?_, ?_⟩ <;> first | (exact cell_call (by assumption) (by assumption) (by assumption)) | (exact lt_call (by assumption) (by assumption)) | (exact below_call' (by assumption) (by assumption)) | (exact Below.drew (by assumption)) | (with_reducible assumption) | (simp; done) | (simp [*]; done) | ((repeat (first | with_reducible exact Below.refl _ _ | with_reducible refine below_alloc ?_ _ | with_reducible refine below_drewN ?_ _ | with_reducible refine Below.drew ?_ | ((with_reducible refine below_set ?_ ?_ _); rotate_left; (focus (first | (simp; done) | (simp; omega) | omega))) | with_reducible refine below_call ?_ (by assumption))); done) | omega | (simp; omega) | (simp [go_sem]; done) | (simp [go_sem, *]; done))))); clear hK K; (try simp only [Act.put, List.getElem_toArray, List.getElem_cons_zero, List.getElem_cons_succ, List.setIfInBounds_toArray, List.set_cons_zero, List.set_cons_succ]))
          refine wpAnyH_ready (rs := [7]) (by kernel_rfl) (by simp) ?_
          refine AllReadyH.cons rfl (fun K hK => ?_) (AllReadyH.nil)
          ((try simp only [List.getElem_toArray, List.getElem_cons_zero, List.getElem_cons_succ]); (try rw [if_pos (by kernel_rfl)]); go_simp; (go_at_call 22; refine (C1.out _ _ _ _ (Own2.months ((((O3.out).call (alb _ _)).call hb4).call hb5)) (Own2.rules ((((O3.out).call (alb _ _)).call hb4).call hb5)) (Own.ints (Own.call (O4.out) hb5) (Nat.le_refl _))).mono ?_; rintro e1 w6 ⟨L6, c6, rfl, ho6, hb6⟩; have HO6 := Lib.hid ho6; clear ho6); (try dsimp only); refine hK.out _ _ ?_ (fun hHeld => ?_); (focus ((try dsimp only); (first | ((try go_split_ands); (try dsimp only); refine ⟨?_, ?_, ?_, ?_, ?_, ?_, ?_, ?_, ?_, ?_, ?_⟩ <;> first | (exact cell_call (by assumption) (by assumption) (by assumption)) | (exact lt_call (by assumption) (by assumption)) | (exact below_call' (by assumption) (by assumption)) | (exact Below.drew (by assumption)) | (with_reducible assumption) | (simp; done) | (simp [*]; done) | ((repeat (first | with_reducible exact Below.refl _ _ | with_reducible refine below_alloc ?_ _ | with_reducible refine below_drewN ?_ _ | with_reducible refine Below.drew ?_ | ((with_reducible refine below_set ?_ ?_ _); rotate_left; (focus (first | (simp; done) | (simp; omega) | omega))) | with_reducible refine below_call ?_ (by assumption))); done) | omega | (simp; omega) | (simp [go_sem]; done) | (simp [go_sem, *]; done))))); clear hK K; (try simp only [Act.put, List.getElem_toArray, List.getElem_cons_zero, List.getElem_cons_succ, List.setIfInBounds_toArray, List.set_cons_zero, List.set_cons_succ]))
          (refine wpAnyH_take (i := 8) (v := ?_) rfl (by kernel_rfl) (by kernel_rfl) (by kernel_rfl) (fun _ _ _ h => h) (Or.inl ⟨by kernel_rfl, ?_⟩) (by assumption) ?_; rotate_left; (focus (intro w hSw; (try dsimp only at hSw); go_simp; (try with_reducible rfl))); (try simp only [Act.put, List.getElem_toArray, List.getElem_cons_zero, List.getElem_cons_succ, List.setIfInBounds_toArray, List.set_cons_zero, List.set_cons_succ]))
          (refine wpAnyH_take (i := 9) (v := ?_) rfl (by kernel_rfl) (by kernel_rfl) (by kernel_rfl) (fun _ _ _ h => h) (Or.inl ⟨by kernel_rfl, ?_⟩) (by assumption) ?_; rotate_left; (focus (intro w hSw; (try dsimp only at hSw); go_simp; (try with_reducible rfl))); (try simp only [Act.put, List.getElem_toArray, List.getElem_cons_zero, List.getElem_cons_succ, List.setIfInBounds_toArray, List.set_cons_zero, List.set_cons_succ]))
          (refine wpAnyH_take (i := 10) (v := ?_) rfl (by kernel_rfl) (by kernel_rfl) (by kernel_rfl) (fun _ _ _ h => h) (Or.inl ⟨by kernel_rfl, ?_⟩) (by assumption) ?_; rotate_left; (focus (intro w hSw; (try dsimp only at hSw); go_simp; (try with_reducible rfl))); (try simp only [Act.put, List.getElem_toArray, List.getElem_cons_zero, List.getElem_cons_succ, List.setIfInBounds_toArray, List.set_cons_zero, List.set_cons_succ]))
          have BW : Below W1.heap.size W1 w6 := by go_split_ands; assumption
          have WG : Work w6 w3.heap.size (.slice none 0 0) 0 0 0 0 0 0 := (((work_new w3 50 (.slice none 0 0) 0 0 0 0 0 0).call hb4).call hb5).call hb6
          have WG2 := Lib.hid WG
          have hgz : W1.heap.size ≤ w3.heap.size := by have hh := BZ1.out.size; exact hh
          obtain ⟨p0, p1, p2, p3, p4, p5, p6, pf⟩ := WG
          have f0 := pf 0
          have f1 := pf 1
          have f2 := pf 2
          have f3 := pf 3
          have f4 := pf 4
          have f5 := pf 5
          have f6 := pf 6
          clear pf
          refine wpAnyH_ready (rs := [12]) (by kernel_rfl) (by simp) ?_
          refine AllReadyH.cons rfl (fun K hK => ?_) (AllReadyH.nil)
          (try simp only [List.getElem_toArray, List.getElem_cons_zero, List.getElem_cons_succ])
          (try rw [if_pos (by kernel_rfl)])
          go_simp
          refine hK.out _ _ ?_ (fun hHeld => ?_)
          · go_split_ands
            refine ⟨?_, ?_, ?_, ?_, ?_, ?_, ?_, ?_, ?_, ?_, ?_⟩ <;> first | (refine Eq.trans (World.cell?_of_block (set7_heap _ ?_)) ?_ <;> first | assumption | (dsimp only; omega)) | exact below_set7 (by assumption) (by omega) | (simp; assumption)
          clear hK K
          (try simp only [Act.put, List.getElem_toArray, List.getElem_cons_zero, List.getElem_cons_succ, List.setIfInBounds_toArray, List.set_cons_zero, List.set_cons_succ])
          (refine wpAnyH_take (i := 13) (v := ?_) rfl (by kernel_rfl) (by kernel_rfl) (by kernel_rfl) (fun _ _ _ h => h) (Or.inl ⟨by kernel_rfl, ?_⟩) (by assumption) ?_; rotate_left; (focus (intro w hSw; (try dsimp only at hSw); go_simp; (try with_reducible rfl))); (try simp only [Act.put, List.getElem_toArray, List.getElem_cons_zero, List.getElem_cons_succ, List.setIfInBounds_toArray, List.set_cons_zero, List.set_cons_succ]))
          refine wpAnyH_done (by kernel_rfl) ?_ _
          go_wp2_with fail
          go_meet
          refine ⟨rfl, res_set WG2.out HO6.out ?_ hgz BW⟩
          refine Nat.lt_of_lt_of_le (show w3.heap.size < (w3.alloc (.cells #[.slice none 0 0, .int .i64 0, .int .i64 0, .int .i64 0, .int .i64 0, .int .i64 0, .int .i64 0] 50)).heap.size by simp) ?_
          exact Nat.le_trans (hb4.size) hb5.size
      · (try simp only [List.getElem_toArray, List.getElem_cons_zero, List.getElem_cons_succ])
        (try rw [if_pos (by kernel_rfl)])
        go_simp
        refine hK.out _ _ ?_ (fun hHeld => ?_)
        · go_split_ands
          refine ⟨?_, ?_, ?_, ?_, ?_, ?_, ?_, ?_, ?_, ?_, ?_⟩ <;> first | exact cell_call (alb _ _) (by assumption) (by assumption) | exact lt_call (alb _ _) (by assumption) | exact below_alloc (by assumption) _ | exact below_ad (by assumption) _
        clear hK K
        (try simp only [Act.put, List.getElem_toArray, List.getElem_cons_zero, List.getElem_cons_succ, List.setIfInBounds_toArray, List.set_cons_zero, List.set_cons_succ])
        refine wpAnyH_ready (rs := [1]) (by kernel_rfl) (by simp) ?_
        refine AllReadyH.cons rfl (fun K hK => ?_) (AllReadyH.nil)
        ((try simp only [List.getElem_toArray, List.getElem_cons_zero, List.getElem_cons_succ]); (try rw [if_pos (by kernel_rfl)]); go_simp; (go_at_call 9; refine (CT.out _ (by go_split_ands; assumption)).mono ?_; rintro e1 w3 ⟨g3, k3, rfl, ho3, hb3⟩; have O3 := Lib.hid ho3; clear ho3); (try dsimp only); refine hK.out _ _ ?_ (fun hHeld => ?_); (focus ((try dsimp only); (first | ((try go_split_ands); (try dsimp only); refine ⟨?_, ?_, ?_, ?_, ?_, ?_, ?_, ?_, ?_, ?_, ?_⟩ <;> first | (exact cell_call (by assumption) (by assumption) (by assumption)) | (exact lt_call (by assumption) (by assumption)) | (exact below_call' (by assumption) (by assumption)) | (exact Below.drew (by assumption)) | (with_reducible assumption) | (simp; done) | (simp [*]; done) | ((repeat (first | with_reducible exact Below.refl _ _ | with_reducible refine below_alloc ?_ _ | with_reducible refine below_drewN ?_ _ | with_reducible refine Below.drew ?_ | ((with_reducible refine below_set ?_ ?_ _); rotate_left; (focus (first | (simp; done) | (simp; omega) | omega))) | with_reducible refine below_call ?_ (by assumption))); done) | omega | (simp; omega) | (simp [go_sem]; done) | (simp [go_sem, *]; done))))); clear hK K; (try simp only [Act.put, List.getElem_toArray, List.getElem_cons_zero, List.getElem_cons_succ, List.setIfInBounds_toArray, List.set_cons_zero, List.set_cons_succ]))
        refine wpAnyH_ready (rs := [3]) (by kernel_rfl) (by simp) ?_
        refine AllReadyH.cons rfl (fun K hK => ?_) (AllReadyH.nil)
        ((try simp only [List.getElem_toArray, List.getElem_cons_zero, List.getElem_cons_succ]); (try rw [if_pos (by kernel_rfl)]); go_simp; (go_at_call 17; refine (IT.out _ (by go_split_ands; assumption)).mono ?_; rintro e1 w4 ⟨L4, rfl, ho4, hb4⟩; have O4 := Lib.hid ho4; clear ho4); (try dsimp only); refine hK.out _ _ ?_ (fun hHeld => ?_); (focus ((try dsimp only); (first | ((try go_split_ands); (try dsimp only); refine ⟨?_, ?_, ?_, ?_, ?_, ?_, ?_, ?_, ?_, ?_, ?_⟩ <;> first | (exact cell_call (by assumption) (by assumption) (by assumption)) | (exact lt_call (by assumption) (by assumption)) | (exact below_call' (by assumption) (by assumption)) | (exact Below.drew (by assumption)) | (with_reducible assumption) | (simp; done) | (simp [*]; done) | ((repeat (first | with_reducible exact Below.refl _ _ | with_reducible refine below_alloc ?_ _ | with_reducible refine below_drewN ?_ _ | with_reducible refine Below.drew ?_ | ((with_reducible refine below_set ?_ ?_ _); rotate_left; (focus (first | (simp; done) | (simp; omega) | omega))) | with_reducible refine below_call ?_ (by assumption))); done) | omega | (simp; omega) | (simp [go_sem]; done) | (simp [go_sem, *]; done))))); clear hK K; (try simp only [Act.put, List.getElem_toArray, List.getElem_cons_zero, List.getElem_cons_succ, List.setIfInBounds_toArray, List.set_cons_zero, List.set_cons_succ]))
        refine wpAnyH_ready (rs := [5]) (by kernel_rfl) (by simp) ?_
        refine AllReadyH.cons rfl (fun K hK => ?_) (AllReadyH.nil)
        ((try simp only [List.getElem_toArray, List.getElem_cons_zero, List.getElem_cons_succ]); (try rw [if_pos (by kernel_rfl)]); go_simp; (go_at_call 23; refine (toDate_any _ _ _ _).mono ?_; rintro e1 w5 ⟨rfl, hb5⟩); (try dsimp only); refine hK.out _ _ ?_ (fun hHeld => ?_); (focus ((try dsimp only); (first | ((try go_split_ands); (try dsimp only); refine ⟨?_, ?_, ?_, ?_, ?_, ?_, ?_, ?_, ?_, ?_, ?_⟩ <;> first | (exact cell_call (by assumption) (by assumption) (by assumption)) | (exact lt_call (by assumption) (by assumption)) | (exact below_call' (by assumption) (by assumption)) | (exact Below.drew (by assumption)) | (with_reducible assumption) | (simp; done) | (simp [*]; done) | ((repeat (first | with_reducible exact Below.refl _ _ | with_reducible refine below_alloc ?_ _ | with_reducible refine below_drewN ?_ _ | with_reducible refine Below.drew ?_ | ((with_reducible refine below_set ?_ ?_ _); rotate_left; (focus (first | (simp; done) | (simp; omega) | omega))) | with_reducible refine below_call ?_ (by assumption))); done) | omega | (simp; omega) | (simp [go_sem]; done) | (simp [go_sem, *]; done))))); clear hK K; (try simp only [Act.put, List.getElem_toArray, List.getElem_cons_zero, List.getElem_cons_succ, List.setIfInBounds_toArray, List.set_cons_zero, List.set_cons_succ]))
        refine wpAnyH_ready (rs := [7]) (by kernel_rfl) (by simp) ?_
        refine AllReadyH.cons rfl (fun K hK => ?_) (AllReadyH.nil)
        ((try simp only [List.getElem_toArray, List.getElem_cons_zero, List.getElem_cons_succ]); (try rw [if_pos (by kernel_rfl)]); go_simp; (go_at_call 22; refine (C1.out _ _ _ _ (Own2.months (((O3.out).call hb4).call hb5)) (Own2.rules (((O3.out).call hb4).call hb5)) (Own.ints (Own.call (O4.out) hb5) (Nat.le_refl _))).mono ?_; rintro e1 w6 ⟨L6, c6, rfl, ho6, hb6⟩; have HO6 := Lib.hid ho6; clear ho6); (try dsimp only); refine hK.out _ _ ?_ (fun hHeld => ?_); (focus ((try dsimp only); (first | ((try go_split_ands); (try dsimp only); refine ⟨?_, ?_, ?_, ?_, ?_, ?_, ?_, ?_, ?_, ?_, ?_⟩ <;> first | (exact cell_call (by assumption) (by assumption) (by assumption)) | (exact lt_call (by assumption) (by assumption)) | (exact below_call' (by assumption) (by assumption)) | (exact Below.drew (by assumption)) | (with_reducible assumption) | (simp; done) | (simp [*]; done) | ((repeat (first | with_reducible exact Below.refl _ _ | with_reducible refine below_alloc ?_ _ | with_reducible refine below_drewN ?_ _ | with_reducible refine Below.drew ?_ | ((with_reducible refine below_set ?_ ?_ _); rotate_left; (focus (first | (simp; done) | (simp; omega) | omega))) | with_reducible refine below_call ?_ (by assumption))); done) | omega | (simp; omega) | (simp [go_sem]; done) | (simp [go_sem, *]; done))))); clear hK K; (try simp only [Act.put, List.getElem_toArray, List.getElem_cons_zero, List.getElem_cons_succ, List.setIfInBounds_toArray, List.set_cons_zero, List.set_cons_succ]))
        (refine wpAnyH_take (i := 8) (v := ?_) rfl (by kernel_rfl) (by kernel_rfl) (by kernel_rfl) (fun _ _ _ h => h) (Or.inl ⟨by kernel_rfl, ?_⟩) (by assumption) ?_; rotate_left; (focus (intro w hSw; (try dsimp only at hSw); go_simp; (try with_reducible rfl))); (try simp only [Act.put, List.getElem_toArray, List.getElem_cons_zero, List.getElem_cons_succ, List.setIfInBounds_toArray, List.set_cons_zero, List.set_cons_succ]))
        (refine wpAnyH_take (i := 9) (v := ?_) rfl (by kernel_rfl) (by kernel_rfl) (by kernel_rfl) (fun _ _ _ h => h) (Or.inl ⟨by kernel_rfl, ?_⟩) (by assumption) ?_; rotate_left; (focus (intro w hSw; (try dsimp only at hSw); go_simp; (try with_reducible rfl))); (try simp only [Act.put, List.getElem_toArray, List.getElem_cons_zero, List.getElem_cons_succ, List.setIfInBounds_toArray, List.set_cons_zero, List.set_cons_succ]))
        (refine wpAnyH_take (i := 10) (v := ?_) rfl (by kernel_rfl) (by kernel_rfl) (by kernel_rfl) (fun _ _ _ h => h) (Or.inl ⟨by kernel_rfl, ?_⟩) (by assumption) ?_; rotate_left; (focus (intro w hSw; (try dsimp only at hSw); go_simp; (try with_reducible rfl))); (try simp only [Act.put, List.getElem_toArray, List.getElem_cons_zero, List.getElem_cons_succ, List.setIfInBounds_toArray, List.set_cons_zero, List.set_cons_succ]))
        have BW : Below W1.heap.size W1 w6 := by go_split_ands; assumption
        have WG : Work w6 W1.heap.size (.slice none 0 0) 0 0 0 0 0 0 := ((((work_new W1.drew 50 (.slice none 0 0) 0 0 0 0 0 0).call hb3).call hb4).call hb5).call hb6
        have WG2 := Lib.hid WG
        have hgz : W1.heap.size ≤ W1.heap.size := by exact Nat.le_refl _
        obtain ⟨p0, p1, p2, p3, p4, p5, p6, pf⟩ := WG
        have f0 := pf 0
        have f1 := pf 1
        have f2 := pf 2
        have f3 := pf 3
        have f4 := pf 4
        have f5 := pf 5
        have f6 := pf 6
        clear pf
        refine wpAnyH_ready (rs := [12]) (by kernel_rfl) (by simp) ?_
        refine AllReadyH.cons rfl (fun K hK => ?_) (AllReadyH.nil)
        (try simp only [List.getElem_toArray, List.getElem_cons_zero, List.getElem_cons_succ])
        (try rw [if_pos (by kernel_rfl)])
        go_simp
        refine hK.out _ _ ?_ (fun hHeld => ?_)
        · go_split_ands
          refine ⟨?_, ?_, ?_, ?_, ?_, ?_, ?_, ?_, ?_, ?_, ?_⟩ <;> first | (refine Eq.trans (World.cell?_of_block (set7_heap _ ?_)) ?_ <;> first | assumption | (dsimp only; omega)) | exact below_set7 (by assumption) (by omega) | (simp; assumption)
        clear hK K
        (try simp only [Act.put, List.getElem_toArray, List.getElem_cons_zero, List.getElem_cons_succ, List.setIfInBounds_toArray, List.set_cons_zero, List.set_cons_succ])
        (refine wpAnyH_take (i := 13) (v := ?_) rfl (by kernel_rfl) (by kernel_rfl) (by kernel_rfl) (fun _ _ _ h => h) (Or.inl ⟨by kernel_rfl, ?_⟩) (by assumption) ?_; rotate_left; (focus (intro w hSw; (try dsimp only at hSw); go_simp; (try with_reducible rfl))); (try simp only [Act.put, List.getElem_toArray, List.getElem_cons_zero, List.getElem_cons_succ, List.setIfInBounds_toArray, List.set_cons_zero, List.set_cons_succ]))
        refine wpAnyH_done (by kernel_rfl) ?_ _
        go_wp2_with fail
        go_meet
        refine ⟨rfl, res_set WG2.out HO6.out ?_ hgz BW⟩
        refine Nat.lt_of_lt_of_le (show W1.heap.size < (W1.drew.alloc (.cells #[.slice none 0 0, .int .i64 0, .int .i64 0, .int .i64 0, .int .i64 0, .int .i64 0, .int .i64 0] 50)).heap.size by simp) ?_
        exact Nat.le_trans (Nat.le_trans (hb3.size) hb4.size) hb5.size
    case rest =>
      obtain ⟨rfl, RS⟩ := hcut
      obtain ⟨gm, S3, c3, rfl, QM', BM⟩ := RS
      revert QM' BM
      generalize wc = W2
      intro QM' BM
      have QM := Lib.hid QM'
      have LD2 := Lib.hid (LD1.out.call BM)
      have z12 := BM.size
      clear QM' BM LD1
      obtain ⟨-, u0, u1, u2, u3⟩ := LD2.out.cal
      go_wp2_with fail
      go_at_call 9
      refine (CT.out _ LD2.out.bl).mono ?_
      rintro e1 w3 ⟨g3, k3, rfl, ho3, hb3⟩
      have z3 := hb3.size
      have hox := ho3.hi_
      have LD3 := Lib.hid ((LD2.out.call hb3).call (alb _ (.cells #[.string nm, .slice (some ⟨g3, 0, none⟩) n n, .slice (some ⟨k3, 0, none⟩) n' n', .int .i64 cw] 33)))
      have QM3 := Lib.hid ((QM.out.call hb3).call (alb _ (.cells #[.string nm, .slice (some ⟨g3, 0, none⟩) n n, .slice (some ⟨k3, 0, none⟩) n' n', .int .i64 cw] 33)))
      have O3 := Lib.hid (ho3.call (alb _ (.cells #[.string nm, .slice (some ⟨g3, 0, none⟩) n n, .slice (some ⟨k3, 0, none⟩) n' n', .int .i64 cw] 33)))
      have KX3 := Lib.hid (cal_new w3 33 nm (some ⟨g3, 0, none⟩) (some ⟨k3, 0, none⟩) n n' n n' cw)
      clear ho3 hb3 u0 u1 u2 u3 LD2 QM
      go_wp2_with fail
      go_at_call 17
      refine (IT.out _ LD3.out.bl).mono ?_
      rintro e1 W9 ⟨L5, rfl, ho5, hb5⟩
      have z5 := hb5.size
      have zw3 : (w3.alloc (.cells #[.string nm, .slice (some ⟨g3, 0, none⟩) n n, .slice (some ⟨k3, 0, none⟩) n' n', .int .i64 cw] 33)).heap.size = w3.heap.size + 1 := by simp
      have LD1 := Lib.hid (LD3.out.call hb5)
      have QM := Lib.hid (QM3.out.call hb5)
      have OX := Lib.hid (O3.out.call hb5)
      have KX := Lib.hid (KX3.out.call hb5)
      have OY := Lib.hid (OwnIn.of ho5)
      clear ho5 hb5 LD3 QM3 O3 KX3
      obtain ⟨gx, hgx⟩ : ∃ g, w3.heap.size = g := ⟨_, rfl⟩
      obtain ⟨lx, hlx⟩ : ∃ g, W2.heap.size = g := ⟨_, rfl⟩
      obtain ⟨ly, hly⟩ : ∃ g, (w3.alloc (.cells #[.string nm, .slice (some ⟨g3, 0, none⟩) n n, .slice (some ⟨k3, 0, none⟩) n' n', .int .i64 cw] 33)).heap.size = g := ⟨_, rfl⟩
      rw [hly] at z5 zw3 OY
      rw [hgx] at zw3 z3 hox KX OX ⊢
      rw [hlx] at z3 z12 QM OX
      clear hly hgx hlx
      have zlo : w.heap.size + 1 + 1 ≤ W1.heap.size := by have := LDL.out; omega
      go_upto_region 10 with fail
      go_cut [14, 15] (fun p q wx => q = .int .i64 cd ∧ Res W9 wx p mm G r1 r2 r3 r4 r5 r6)
      case first =>
        obtain ⟨zc, u0, u1, u2, u3⟩ := KX.out
        obtain ⟨t0, t1, t2, -⟩ := LD1.out.dt
        have zd := LD1.out.dt.lt
        have yb := LD1.out.bl
        have yr := Below.refl W9.heap.size W9
        refine wp_region_held_drew (S := (fun w' => w'.cell? ⟨gx, 0, none⟩ = some (.string nm) ∧ w'.cell? ⟨gx, 1, none⟩ = some (.slice (some ⟨g3, 0, none⟩) n n) ∧ w'.cell? ⟨gx, 2, none⟩ = some (.slice (some ⟨k3, 0, none⟩) n' n') ∧ w'.cell? ⟨gx, 3, none⟩ = some (.int .i64 cw) ∧ w'.cell? ⟨w.heap.size + 1, 0, none⟩ = some (.int .i64 y) ∧ w'.cell? ⟨w.heap.size + 1, 1, none⟩ = some (.int .i64 m) ∧ w'.cell? ⟨w.heap.size + 1, 2, none⟩ = some (.int .i64 d) ∧ gx < w'.heap.size ∧ w.heap.size + 1 < w'.heap.size ∧ Below w.heap.size w w' ∧ Below W9.heap.size W9 w')) (by kernel_rfl) ?_ (fun hHeld => ?_)
        · (try dsimp only); (first | ((try go_split_ands); (try dsimp only); refine ⟨?_, ?_, ?_, ?_, ?_, ?_, ?_, ?_, ?_, ?_, ?_⟩ <;> first | (exact cell_call (by assumption) (by assumption) (by assumption)) | (exact lt_call (by assumption) (by assumption)) | (exact below_call' (by assumption) (by assumption)) | (exact Below.drew (by assumption)) | (with_reducible assumption) | (simp; done) | (simp [*]; done) | ((repeat (first | with_reducible exact Below.refl _ _ | with_reducible refine below_alloc ?_ _ | with_reducible refine below_drewN ?_ _ | with_reducible refine Below.drew ?_ | ((with_reducible refine below_set ?_ ?_ _); rotate_left; (focus (first | (simp; done) | (simp; omega) | omega))) | with_reducible refine below_call ?_ (by assumption))); done) | omega | (simp; omega) | (simp [go_sem]; done) | (simp [go_sem, *]; done)))
        (refine wpAnyH_take (i := 0) (v := ?_) rfl (by kernel_rfl) (by kernel_rfl) (by kernel_rfl) (fun _ _ _ h => h) (Or.inl ⟨by kernel_rfl, ?_⟩) (by assumption) ?_; rotate_left; (focus (intro w hSw; (try dsimp only at hSw); go_simp; (try with_reducible rfl))); (try simp only [Act.put, List.getElem_toArray, List.getElem_cons_zero, List.getElem_cons_succ, List.setIfInBounds_toArray, List.set_cons_zero, List.set_cons_succ]))
        (refine wpAnyH_take (i := 1) (v := ?_) rfl (by kernel_rfl) (by kernel_rfl) (by kernel_rfl) (fun _ _ _ h => h) (Or.inl ⟨by kernel_rfl, ?_⟩) (by assumption) ?_; rotate_left; (focus (intro w hSw; (try dsimp only at hSw); go_simp; (try with_reducible rfl))); (try simp only [Act.put, List.getElem_toArray, List.getElem_cons_zero, List.getElem_cons_succ, List.setIfInBounds_toArray, List.set_cons_zero, List.set_cons_succ]))
        (refine wpAnyH_take (i := 2) (v := ?_) rfl (by kernel_rfl) (by kernel_rfl) (by kernel_rfl) (fun _ _ _ h => h) (Or.inl ⟨by kernel_rfl, ?_⟩) (by assumption) ?_; rotate_left; (focus (intro w hSw; (try dsimp only at hSw); go_simp; (try with_reducible rfl))); (try simp only [Act.put, List.getElem_toArray, List.getElem_cons_zero, List.getElem_cons_succ, List.setIfInBounds_toArray, List.set_cons_zero, List.set_cons_succ]))
        (refine wpAnyH_take (i := 4) (v := ?_) rfl (by kernel_rfl) (by kernel_rfl) (by kernel_rfl) (fun _ _ _ h => h) (Or.inl ⟨by kernel_rfl, ?_⟩) (by assumption) ?_; rotate_left; (focus (intro w hSw; (try dsimp only at hSw); go_simp; (try with_reducible rfl))); (try simp only [Act.put, List.getElem_toArray, List.getElem_cons_zero, List.getElem_cons_succ, List.setIfInBounds_toArray, List.set_cons_zero, List.set_cons_succ]))
        refine wpAnyH_ready (rs := [3, 9]) (by kernel_rfl) (by simp) ?_
        refine AllReadyH.cons rfl (fun K hK => ?_) (AllReadyH.cons rfl (fun K hK => ?_) (AllReadyH.nil))
        · ((try simp only [List.getElem_toArray, List.getElem_cons_zero, List.getElem_cons_succ]); (try rw [if_pos (by kernel_rfl)]); go_simp; (go_at_call 23; refine (toDate_any _ _ _ _).mono ?_; rintro e1 w5 ⟨rfl, hb5⟩); (try dsimp only); refine hK.out _ _ ?_ (fun hHeld => ?_); (focus ((try dsimp only); (first | ((try go_split_ands); (try dsimp only); refine ⟨?_, ?_, ?_, ?_, ?_, ?_, ?_, ?_, ?_, ?_, ?_⟩ <;> first | (exact cell_call (by assumption) (by assumption) (by assumption)) | (exact lt_call (by assumption) (by assumption)) | (exact below_call' (by assumption) (by assumption)) | (exact Below.drew (by assumption)) | (with_reducible assumption) | (simp; done) | (simp [*]; done) | ((repeat (first | with_reducible exact Below.refl _ _ | with_reducible refine below_alloc ?_ _ | with_reducible refine below_drewN ?_ _ | with_reducible refine Below.drew ?_ | ((with_reducible refine below_set ?_ ?_ _); rotate_left; (focus (first | (simp; done) | (simp; omega) | omega))) | with_reducible refine below_call ?_ (by assumption))); done) | omega | (simp; omega) | (simp [go_sem]; done) | (simp [go_sem, *]; done))))); clear hK K; (try simp only [Act.put, List.getElem_toArray, List.getElem_cons_zero, List.getElem_cons_succ, List.setIfInBounds_toArray, List.set_cons_zero, List.set_cons_succ]))
          have BZ1 := Lib.hid (show Below W9.heap.size W9 w5 by go_split_ands; assumption)
          refine wpAnyH_ready (rs := [5, 9]) (by kernel_rfl) (by simp) ?_
          refine AllReadyH.cons rfl (fun K hK => ?_) (AllReadyH.cons rfl (fun K hK => ?_) (AllReadyH.nil))
          · ((try simp only [List.getElem_toArray, List.getElem_cons_zero, List.getElem_cons_succ]); (try rw [if_pos (by kernel_rfl)]); go_simp; (go_at_call 24; refine (C2.out _ _ _ _ (Own2.months (OX.out.call (by go_split_ands; assumption))) (Own2.rules (OX.out.call (by go_split_ands; assumption))) (OwnIn.ints (OwnIn.call OY.out (by go_split_ands; assumption) (Nat.le_refl _)) (by go_split_ands; exact Below.size (B := W9.heap.size) (w := W9) (by assumption)))).mono ?_; rintro e1 w6 ⟨L6, c6, rfl, ho6, hb6⟩; have HO6 := Lib.hid ho6; clear ho6); (try dsimp only); refine hK.out _ _ ?_ (fun hHeld => ?_); (focus ((try dsimp only); (first | ((try go_split_ands); (try dsimp only); refine ⟨?_, ?_, ?_, ?_, ?_, ?_, ?_, ?_, ?_, ?_, ?_⟩ <;> first | (exact cell_call (by assumption) (by assumption) (by assumption)) | (exact lt_call (by assumption) (by assumption)) | (exact below_call' (by assumption) (by assumption)) | (exact Below.drew (by assumption)) | (with_reducible assumption) | (simp; done) | (simp [*]; done) | ((repeat (first | with_reducible exact Below.refl _ _ | with_reducible refine below_alloc ?_ _ | with_reducible refine below_drewN ?_ _ | with_reducible refine Below.drew ?_ | ((with_reducible refine below_set ?_ ?_ _); rotate_left; (focus (first | (simp; done) | (simp; omega) | omega))) | with_reducible refine below_call ?_ (by assumption))); done) | omega | (simp; omega) | (simp [go_sem]; done) | (simp [go_sem, *]; done))))); clear hK K; (try simp only [Act.put, List.getElem_toArray, List.getElem_cons_zero, List.getElem_cons_succ, List.setIfInBounds_toArray, List.set_cons_zero, List.set_cons_succ]))
            have BZ2 := Lib.hid (show Below W9.heap.size W9 w6 by go_split_ands; assumption)
            (refine wpAnyH_take (i := 6) (v := ?_) rfl (by kernel_rfl) (by kernel_rfl) (by kernel_rfl) (fun _ _ _ h => h) (Or.inl ⟨by kernel_rfl, ?_⟩) (by assumption) ?_; rotate_left; (focus (intro w hSw; (try dsimp only at hSw); go_simp; (try with_reducible rfl))); (try simp only [Act.put, List.getElem_toArray, List.getElem_cons_zero, List.getElem_cons_succ, List.setIfInBounds_toArray, List.set_cons_zero, List.set_cons_succ]))
            (refine wpAnyH_take (i := 7) (v := ?_) rfl (by kernel_rfl) (by kernel_rfl) (by kernel_rfl) (fun _ _ _ h => h) (Or.inl ⟨by kernel_rfl, ?_⟩) (by assumption) ?_; rotate_left; (focus (intro w hSw; (try dsimp only at hSw); go_simp; (try with_reducible rfl))); (try simp only [Act.put, List.getElem_toArray, List.getElem_cons_zero, List.getElem_cons_succ, List.setIfInBounds_toArray, List.set_cons_zero, List.set_cons_succ]))
            (refine wpAnyH_take (i := 8) (v := ?_) rfl (by kernel_rfl) (by kernel_rfl) (by kernel_rfl) (fun _ _ _ h => h) (Or.inl ⟨by kernel_rfl, ?_⟩) (by assumption) ?_; rotate_left; (focus (intro w hSw; (try dsimp only at hSw); go_simp; (try with_reducible rfl))); (try simp only [Act.put, List.getElem_toArray, List.getElem_cons_zero, List.getElem_cons_succ, List.setIfInBounds_toArray, List.set_cons_zero, List.set_cons_succ]))
            refine wpAnyH_ready (rs := [9]) (by kernel_rfl) (by simp) ?_
            refine AllReadyH.cons rfl (fun K hK => ?_) (AllReadyH.nil)
            (try simp only [List.getElem_toArray, List.getElem_cons_zero, List.getElem_cons_succ])
            (try rw [if_pos (by kernel_rfl)])
            go_simp
            refine hK.out _ _ ?_ (fun hHeld => ?_)
            · go_split_ands
              refine ⟨?_, ?_, ?_, ?_, ?_, ?_, ?_, ?_, ?_, ?_, ?_⟩ <;> first | exact cell_call (alb _ _) (by assumption) (by assumption) | exact lt_call (alb _ _) (by assumption) | exact below_alloc (by assumption) _ | exact below_ad (by assumption) _
            clear hK K
            (try simp only [Act.put, List.getElem_toArray, List.getElem_cons_zero, List.getElem_cons_succ, List.setIfInBounds_toArray, List.set_cons_zero, List.set_cons_succ])
            refine wpAnyH_ready (rs := [10]) (by kernel_rfl) (by simp) ?_
            refine AllReadyH.cons rfl (fun K hK => ?_) (AllReadyH.nil)
            (try simp only [List.getElem_toArray, List.getElem_cons_zero, List.getElem_cons_succ])
            (try rw [if_pos (by kernel_rfl)])
            go_simp
            refine hK.out _ _ ?_ (fun hHeld => ?_)
            · go_split_ands
              refine ⟨?_, ?_, ?_, ?_, ?_, ?_, ?_, ?_, ?_, ?_, ?_⟩ <;> first | exact cell_call (alb _ _) (by assumption) (by assumption) | exact lt_call (alb _ _) (by assumption) | exact below_alloc (by assumption) _ | exact below_ad (by assumption) _
            clear hK K
            (try simp only [Act.put, List.getElem_toArray, List.getElem_cons_zero, List.getElem_cons_succ, List.setIfInBounds_toArray, List.set_cons_zero, List.set_cons_succ])
            (refine wpAnyH_take (i := 11) (v := ?_) rfl (by kernel_rfl) (by kernel_rfl) (by kernel_rfl) (fun _ _ _ h => h) (Or.inl ⟨by kernel_rfl, ?_⟩) (by assumption) ?_; rotate_left; (focus (intro w hSw; (try dsimp only at hSw); go_simp; (try with_reducible rfl))); (try simp only [Act.put, List.getElem_toArray, List.getElem_cons_zero, List.getElem_cons_succ, List.setIfInBounds_toArray, List.set_cons_zero, List.set_cons_succ]))
            refine wpAnyH_done (by kernel_rfl) ?_ _
            go_wp2_with fail
            go_meet
            exact ⟨rfl, res_new 50 HO6.out BZ1.out.size BZ2.out⟩
          · (try simp only [List.getElem_toArray, List.getElem_cons_zero, List.getElem_cons_succ])
            (try rw [if_pos (by kernel_rfl)])
            go_simp
            refine hK.out _ _ ?_ (fun hHeld => ?_)
            · go_split_ands
              refine ⟨?_, ?_, ?_, ?_, ?_, ?_, ?_, ?_, ?_, ?_, ?_⟩ <;> first | exact cell_call (alb _ _) (by assumption) (by assumption) | exact lt_call (alb _ _) (by assumption) | exact below_alloc (by assumption) _ | exact below_ad (by assumption) _
            clear hK K
            (try simp only [Act.put, List.getElem_toArray, List.getElem_cons_zero, List.getElem_cons_succ, List.setIfInBounds_toArray, List.set_cons_zero, List.set_cons_succ])
            refine wpAnyH_ready (rs := [5]) (by kernel_rfl) (by simp) ?_
            refine AllReadyH.cons rfl (fun K hK => ?_) (AllReadyH.nil)
            ((try simp only [List.getElem_toArray, List.getElem_cons_zero, List.getElem_cons_succ]); (try rw [if_pos (by kernel_rfl)]); go_simp; (go_at_call 24; refine (C2.out _ _ _ _ (Own2.months (OX.out.call (by go_split_ands; assumption))) (Own2.rules (OX.out.call (by go_split_ands; assumption))) (OwnIn.ints (OwnIn.call OY.out (by go_split_ands; assumption) (Nat.le_refl _)) (by go_split_ands; exact Below.size (B := W9.heap.size) (w := W9) (by assumption)))).mono ?_; rintro e1 w6 ⟨L6, c6, rfl, ho6, hb6⟩; have HO6 := Lib.hid ho6; clear ho6); (try dsimp only); refine hK.out _ _ ?_ (fun hHeld => ?_); (focus ((try dsimp only); (first | ((try go_split_ands); (try dsimp only); refine ⟨?_, ?_, ?_, ?_, ?_, ?_, ?_, ?_, ?_, ?_, ?_⟩ <;> first | (exact cell_call (by assumption) (by assumption) (by assumption)) | (exact lt_call (by assumption) (by assumption)) | (exact below_call' (by assumption) (by assumption)) | (exact Below.drew (by assumption)) | (with_reducible assumption) | (simp; done) | (simp [*]; done) | ((repeat (first | with_reducible exact Below.refl _ _ | with_reducible refine below_alloc ?_ _ | with_reducible refine below_drewN ?_ _ | with_reducible refine Below.drew ?_ | ((with_reducible refine below_set ?_ ?_ _); rotate_left; (focus (first | (simp; done) | (simp; omega) | omega))) | with_reducible refine below_call ?_ (by assumption))); done) | omega | (simp; omega) | (simp [go_sem]; done) | (simp [go_sem, *]; done))))); clear hK K; (try simp only [Act.put, List.getElem_toArray, List.getElem_cons_zero, List.getElem_cons_succ, List.setIfInBounds_toArray, List.set_cons_zero, List.set_cons_succ]))
            (refine wpAnyH_take (i := 6) (v := ?_) rfl (by kernel_rfl) (by kernel_rfl) (by kernel_rfl) (fun _ _ _ h => h) (Or.inl ⟨by kernel_rfl, ?_⟩) (by assumption) ?_; rotate_left; (focus (intro w hSw; (try dsimp only at hSw); go_simp; (try with_reducible rfl))); (try simp only [Act.put, List.getElem_toArray, List.getElem_cons_zero, List.getElem_cons_succ, List.setIfInBounds_toArray, List.set_cons_zero, List.set_cons_succ]))
            (refine wpAnyH_take (i := 7) (v := ?_) rfl (by kernel_rfl) (by kernel_rfl) (by kernel_rfl) (fun _ _ _ h => h) (Or.inl ⟨by kernel_rfl, ?_⟩) (by assumption) ?_; rotate_left; (focus (intro w hSw; (try dsimp only at hSw); go_simp; (try with_reducible rfl))); (try simp only [Act.put, List.getElem_toArray, List.getElem_cons_zero, List.getElem_cons_succ, List.setIfInBounds_toArray, List.set_cons_zero, List.set_cons_succ]))
            (refine wpAnyH_take (i := 8) (v := ?_) rfl (by kernel_rfl) (by kernel_rfl) (by kernel_rfl) (fun _ _ _ h => h) (Or.inl ⟨by kernel_rfl, ?_⟩) (by assumption) ?_; rotate_left; (focus (intro w hSw; (try dsimp only at hSw); go_simp; (try with_reducible rfl))); (try simp only [Act.put, List.getElem_toArray, List.getElem_cons_zero, List.getElem_cons_succ, List.setIfInBounds_toArray, List.set_cons_zero, List.set_cons_succ]))
            have BW : Below W9.heap.size W9 w6 := by go_split_ands; assumption
            have WG : Work w6 w5.heap.size (.slice none 0 0) 0 0 0 0 0 0 := (work_new w5 50 (.slice none 0 0) 0 0 0 0 0 0).call hb6
            have WG2 := Lib.hid WG
            have hgz : W9.heap.size ≤ w5.heap.size := by have hh := BZ1.out.size; exact hh
            obtain ⟨p0, p1, p2, p3, p4, p5, p6, pf⟩ := WG
            have f0 := pf 0
            have f1 := pf 1
            have f2 := pf 2
            have f3 := pf 3
            have f4 := pf 4
            have f5 := pf 5
            have f6 := pf 6
            clear pf
            refine wpAnyH_ready (rs := [10]) (by kernel_rfl) (by simp) ?_
            refine AllReadyH.cons rfl (fun K hK => ?_) (AllReadyH.nil)
            (try simp only [List.getElem_toArray, List.getElem_cons_zero, List.getElem_cons_succ])
            (try rw [if_pos (by kernel_rfl)])
            go_simp
            refine hK.out _ _ ?_ (fun hHeld => ?_)
            · go_split_ands
              refine ⟨?_, ?_, ?_, ?_, ?_, ?_, ?_, ?_, ?_, ?_, ?_⟩ <;> first | (refine Eq.trans (World.cell?_of_block (set7_heap _ ?_)) ?_ <;> first | assumption | (dsimp only; omega)) | exact below_set7 (by assumption) (by omega) | (simp; assumption)
            clear hK K
            (try simp only [Act.put, List.getElem_toArray, List.getElem_cons_zero, List.getElem_cons_succ, List.setIfInBounds_toArray, List.set_cons_zero, List.set_cons_succ])
            (refine wpAnyH_take (i := 11) (v := ?_) rfl (by kernel_rfl) (by kernel_rfl) (by kernel_rfl) (fun _ _ _ h => h) (Or.inl ⟨by kernel_rfl, ?_⟩) (by assumption) ?_; rotate_left; (focus (intro w hSw; (try dsimp only at hSw); go_simp; (try with_reducible rfl))); (try simp only [Act.put, List.getElem_toArray, List.getElem_cons_zero, List.getElem_cons_succ, List.setIfInBounds_toArray, List.set_cons_zero, List.set_cons_succ]))
            refine wpAnyH_done (by kernel_rfl) ?_ _
            go_wp2_with fail
            go_meet
            refine ⟨rfl, res_set WG2.out HO6.out ?_ hgz BW⟩
            refine Nat.lt_of_lt_of_le (show w5.heap.size < (w5.alloc (.cells #[.slice none 0 0, .int .i64 0, .int .i64 0, .int .i64 0, .int .i64 0, .int .i64 0, .int .i64 0] 50)).heap.size by simp) ?_
            exact Nat.le_refl _
        · (try simp only [List.getElem_toArray, List.getElem_cons_zero, List.getElem_cons_succ])
          (try rw [if_pos (by kernel_rfl)])
          go_simp
          refine hK.out _ _ ?_ (fun hHeld => ?_)
          · go_split_ands
            refine ⟨?_, ?_, ?_, ?_, ?_, ?_, ?_, ?_, ?_, ?_, ?_⟩ <;> first | exact cell_call (alb _ _) (by assumption) (by assumption) | exact lt_call (alb _ _) (by assumption) | exact below_alloc (by assumption) _ | exact below_ad (by assumption) _
          clear hK K
          (try simp only [Act.put, List.getElem_toArray, List.getElem_cons_zero, List.getElem_cons_succ, List.setIfInBounds_toArray, List.set_cons_zero, List.set_cons_succ])
          refine wpAnyH_ready (rs := [3]) (by kernel_rfl) (by simp) ?_
          refine AllReadyH.cons rfl (fun K hK => ?_) (AllReadyH.nil)
          ((try simp only [List.getElem_toArray, List.getElem_cons_zero, List.getElem_cons_succ]); (try rw [if_pos (by kernel_rfl)]); go_simp; (go_at_call 23; refine (toDate_any _ _ _ _).mono ?_; rintro e1 w5 ⟨rfl, hb5⟩); (try dsimp only); refine hK.out _ _ ?_ (fun hHeld => ?_); (focus ((try dsimp only); (first | ((try go_split_ands); (try dsimp only); refine ⟨?_, ?_, ?_, ?_, ?_, ?_, ?_, ?_, ?_, ?_, ?_⟩ <;> first | (exact cell_call (by assumption) (by assumption) (by assumption)) | (exact lt_call (by assumption) (by assumption)) | (exact below_call' (by assumption) (by assumption)) | (exact Below.drew (by assumption)) | (with_reducible assumption) | (simp; done) | (simp [*]; done) | ((repeat (first | with_reducible exact Below.refl _ _ | with_reducible refine below_alloc ?_ _ | with_reducible refine below_drewN ?_ _ | with_reducible refine Below.drew ?_ | ((with_reducible refine below_set ?_ ?_ _); rotate_left; (focus (first | (simp; done) | (simp; omega) | omega))) | with_reducible refine below_call ?_ (by assumption))); done) | omega | (simp; omega) | (simp [go_sem]; done) | (simp [go_sem, *]; done))))); clear hK K; (try simp only [Act.put, List.getElem_toArray, List.getElem_cons_zero, List.getElem_cons_succ, List.setIfInBounds_toArray, List.set_cons_zero, List.set_cons_succ]))
          refine wpAnyH_ready (rs := [5]) (by kernel_rfl) (by simp) ?_
          refine AllReadyH.cons rfl (fun K hK => ?_) (AllReadyH.nil)
          ((try simp only [List.getElem_toArray, List.getElem_cons_zero, List.getElem_cons_succ]); (try rw [if_pos (by kernel_rfl)]); go_simp; (go_at_call 24; refine (C2.out _ _ _ _ (Own2.months (OX.out.call (by go_split_ands; assumption))) (Own2.rules (OX.out.call (by go_split_ands; assumption))) (OwnIn.ints (OwnIn.call OY.out (by go_split_ands; assumption) (Nat.le_refl _)) (by go_split_ands; exact Below.size (B := W9.heap.size) (w := W9) (by assumption)))).mono ?_; rintro e1 w6 ⟨L6, c6, rfl, ho6, hb6⟩; have HO6 := Lib.hid ho6; clear ho6); (try dsimp only); refine hK.out _ _ ?_ (fun hHeld => ?_); (focus ((try dsimp only); (first | ((try go_split_ands); (try dsimp only); refine ⟨?_, ?_, ?_, ?_, ?_, ?_, ?_, ?_, ?_, ?_, ?_⟩ <;> first | (exact cell_call (by assumption) (by assumption) (by assumption)) | (exact lt_call (by assumption) (by assumption)) | (exact below_call' (by assumption) (by assumption)) | (exact Below.drew (by assumption)) | (with_reducible assumption) | (simp; done) | (simp [*]; done) | ((repeat (first | with_reducible exact Below.refl _ _ | with_reducible refine below_alloc ?_ _ | with_reducible refine below_drewN ?_ _ | with_reducible refine Below.drew ?_ | ((with_reducible refine below_set ?_ ?_ _); rotate_left; (focus (first | (simp; done) | (simp; omega) | omega))) | with_reducible refine below_call ?_ (by assumption))); done) | omega | (simp; omega) | (simp [go_sem]; done) | (simp [go_sem, *]; done))))); clear hK K; (try simp only [Act.put, List.getElem_toArray, List.getElem_cons_zero, List.getElem_cons_succ, List.setIfInBounds_toArray, List.set_cons_zero, List.set_cons_succ]))
          (refine wpAnyH_take (i := 6) (v := ?_) rfl (by kernel_rfl) (by kernel_rfl) (by kernel_rfl) (fun _ _ _ h => h) (Or.inl ⟨by kernel_rfl, ?_⟩) (by assumption) ?_; rotate_left; (focus (intro w hSw; (try dsimp only at hSw); go_simp; (try with_reducible rfl))); (try simp only [Act.put, List.getElem_toArray, List.getElem_cons_zero, List.getElem_cons_succ, List.setIfInBounds_toArray, List.set_cons_zero, List.set_cons_succ]))
          (refine wpAnyH_take (i := 7) (v := ?_) rfl (by kernel_rfl) (by kernel_rfl) (by kernel_rfl) (fun _ _ _ h => h) (Or.inl ⟨by kernel_rfl, ?_⟩) (by assumption) ?_; rotate_left; (focus (intro w hSw; (try dsimp only at hSw); go_simp; (try with_reducible rfl))); (try simp only [Act.put, List.getElem_toArray, List.getElem_cons_zero, List.getElem_cons_succ, List.setIfInBounds_toArray, List.set_cons_zero, List.set_cons_succ]))
          (refine wpAnyH_take (i := 8) (v := ?_) rfl (by kernel_rfl) (by kernel_rfl) (by kernel_rfl) (fun _ _ _ h => h) (Or.inl ⟨by kernel_rfl, ?_⟩) (by assumption) ?_; rotate_left; (focus (intro w hSw; (try dsimp only at hSw); go_simp; (try with_reducible rfl))); (try simp only [Act.put, List.getElem_toArray, List.getElem_cons_zero, List.getElem_cons_succ, List.setIfInBounds_toArray, List.set_cons_zero, List.set_cons_succ]))
          have BW : Below W9.heap.size W9 w6 := by go_split_ands; assumption
          have WG : Work w6 W9.heap.size (.slice none 0 0) 0 0 0 0 0 0 := ((work_new W9.drew 50 (.slice none 0 0) 0 0 0 0 0 0).call hb5).call hb6
          have WG2 := Lib.hid WG
          have hgz : W9.heap.size ≤ W9.heap.size := by exact Nat.le_refl _
          obtain ⟨p0, p1, p2, p3, p4, p5, p6, pf⟩ := WG
          have f0 := pf 0
          have f1 := pf 1
          have f2 := pf 2
          have f3 := pf 3
          have f4 := pf 4
          have f5 := pf 5
          have f6 := pf 6
          clear pf
          refine wpAnyH_ready (rs := [10]) (by kernel_rfl) (by simp) ?_
          refine AllReadyH.cons rfl (fun K hK => ?_) (AllReadyH.nil)
          (try simp only [List.getElem_toArray, List.getElem_cons_zero, List.getElem_cons_succ])
          (try rw [if_pos (by kernel_rfl)])
          go_simp
          refine hK.out _ _ ?_ (fun hHeld => ?_)
          · go_split_ands
            refine ⟨?_, ?_, ?_, ?_, ?_, ?_, ?_, ?_, ?_, ?_, ?_⟩ <;> first | (refine Eq.trans (World.cell?_of_block (set7_heap _ ?_)) ?_ <;> first | assumption | (dsimp only; omega)) | exact below_set7 (by assumption) (by omega) | (simp; assumption)
          clear hK K
          (try simp only [Act.put, List.getElem_toArray, List.getElem_cons_zero, List.getElem_cons_succ, List.setIfInBounds_toArray, List.set_cons_zero, List.set_cons_succ])
          (refine wpAnyH_take (i := 11) (v := ?_) rfl (by kernel_rfl) (by kernel_rfl) (by kernel_rfl) (fun _ _ _ h => h) (Or.inl ⟨by kernel_rfl, ?_⟩) (by assumption) ?_; rotate_left; (focus (intro w hSw; (try dsimp only at hSw); go_simp; (try with_reducible rfl))); (try simp only [Act.put, List.getElem_toArray, List.getElem_cons_zero, List.getElem_cons_succ, List.setIfInBounds_toArray, List.set_cons_zero, List.set_cons_succ]))
          refine wpAnyH_done (by kernel_rfl) ?_ _
          go_wp2_with fail
          go_meet
          refine ⟨rfl, res_set WG2.out HO6.out ?_ hgz BW⟩
          refine Nat.lt_of_lt_of_le (show W9.heap.size < (W9.drew.alloc (.cells #[.slice none 0 0, .int .i64 0, .int .i64 0, .int .i64 0, .int .i64 0, .int .i64 0, .int .i64 0] 50)).heap.size by simp) ?_
          exact hb5.size
      case rest =>
        obtain ⟨rfl, RS⟩ := hcut
        obtain ⟨gn, S5, c5, rfl, QN', BN⟩ := RS
        revert QN' BN
        generalize wc = V1
        intro QN' BN
        have QN1 := Lib.hid QN'
        have LD2 := Lib.hid (LD1.out.call BN)
        have QM1 := Lib.hid (QM.out.call BN)
        have OX1 := Lib.hid (OX.out.call BN)
        have KX1 := Lib.hid (KX.out.call BN)
        have OY1 := Lib.hid (OwnIn.call OY.out BN (Nat.le_refl _))
        have zn := BN.size
        clear QN' BN LD1 QM OX KX OY
        obtain ⟨a0, a1, a2, a3, a4, a5, a6, -⟩ := QN1.out.wk
        obtain ⟨b0, b1, b2, b3, b4, b5, b6, -⟩ := QM1.out.wk
        go_wp2_with fail
        go_at_call 25
        refine (eqPerpetual_same _ _ _ _ _ _ V1.heap.size V1.heap.size G r1 r2 r3 r4 r5 r6 _ (OwnIn.ints QN1.out.ow QN1.out.hh) (OwnIn.ints QM1.out.ow QM1.out.hh) (Nat.le_refl _) (Nat.le_refl _) (by omega) (by omega)).mono ?_
        rintro e1 V2 ⟨rfl, hb⟩
        have LD3 := Lib.hid (LD2.out.call hb)
        have QM2 := Lib.hid (QM1.out.call hb)
        have QN2 := Lib.hid (QN1.out.call hb)
        have OX2 := Lib.hid (OX1.out.call hb)
        have KX2 := Lib.hid (KX1.out.call hb)
        have OY2 := Lib.hid (OwnIn.call OY1.out hb (by omega))
        have zn2 := hb.size
        clear hb LD2 QM1 QN1 OX1 KX1 OY1
        clear a0 a1 a2 a3 a4 a5 a6 b0 b1 b2 b3 b4 b5 b6
        go_upto_region 13 with fail
        obtain ⟨zc, u0, u1, u2, u3⟩ := KX2.out
        obtain ⟨zd, d0, d1, d2, d3⟩ := LD3.out.cal
        have yb := LD3.out.bl
        have yr := Below.refl V2.heap.size V2
        go_region_held3 (fun w' => w'.cell? ⟨gx, 0, none⟩ = some (.string nm) ∧ w'.cell? ⟨gx, 1, none⟩ = some (.slice (some ⟨g3, 0, none⟩) n n) ∧ w'.cell? ⟨gx, 2, none⟩ = some (.slice (some ⟨k3, 0, none⟩) n' n') ∧ w'.cell? ⟨gx, 3, none⟩ = some (.int .i64 cw) ∧ w'.cell? ⟨w.heap.size, 0, none⟩ = some (.string nm) ∧ w'.cell? ⟨w.heap.size, 1, none⟩ = some (.slice A n c) ∧ w'.cell? ⟨w.heap.size, 2, none⟩ = some (.slice A' n' c') ∧ w'.cell? ⟨w.heap.size, 3, none⟩ = some (.int .i64 cw) ∧ gx < w'.heap.size ∧ w.heap.size < w'.heap.size ∧ Below w.heap.size w w' ∧ Below V2.heap.size V2 w') (first | ((try go_split_ands); (try dsimp only); refine ⟨?_, ?_, ?_, ?_, ?_, ?_, ?_, ?_, ?_, ?_, ?_, ?_⟩ <;> first | (exact cell_call (by assumption) (by assumption) (by assumption)) | (exact lt_call (by assumption) (by assumption)) | (exact below_call' (by assumption) (by assumption)) | (exact Below.drew (by assumption)) | (with_reducible assumption) | (simp; done) | (simp [*]; done) | ((repeat (first | with_reducible exact Below.refl _ _ | with_reducible refine below_alloc ?_ _ | with_reducible refine below_drewN ?_ _ | with_reducible refine Below.drew ?_ | ((with_reducible refine below_set ?_ ?_ _); rotate_left; (focus (first | (simp; done) | (simp; omega) | omega))) | with_reducible refine below_call ?_ (by assumption))); done) | omega | (simp; omega) | (simp [go_sem]; done) | (simp [go_sem, *]; done))) (first | (go_at_call 9; go_split_ands; refine (CT.out _ (by assumption)).mono ?_; rintro e1 w3 ⟨g4, k4, rfl, ho3, hb3⟩; have O3 := Lib.hid ho3; clear ho3) | (go_at_call 12; go_split_ands; refine (eqCalendar_same _ _ _ _ _ _ _ _ _ _ _ _ _ ms rs _ _ (Own2.months (OX2.out.call (by assumption))) (Own2.rules (OX2.out.call (by assumption))) (Own2.months O3.out) (Own2.rules O3.out) (Nat.le_refl _) (Nat.le_refl _) hn hn').mono ?_; rintro e1 V3 ⟨rfl, hb8⟩))
        go_split_ands
        have hb : Below V2.heap.size V2 V3 := by assumption
        have LD4 := Lib.hid (LD3.out.call hb)
        have QM3 := Lib.hid (QM2.out.call hb)
        have QN3 := Lib.hid (QN2.out.call hb)
        have OX3 := Lib.hid (OX2.out.call hb)
        have KX3 := Lib.hid (KX2.out.call hb)
        have OY3 := Lib.hid (OwnIn.call OY2.out hb (by omega))
        have zn3 := hb.size
        clear hb hb3 hb8 O3 LD3 QM2 QN2 OX2 KX2 OY2 yr yb zc zd u0 u1 u2 u3 d0 d1 d2 d3
        go_wp2_with fail
        go_at_call 17
        refine (IT.out _ LD4.out.bl).mono ?_
        rintro e1 V4 ⟨L7, rfl, ho7, hb⟩
        have O7 := Lib.hid (OwnIn.of ho7)
        have LD5 := Lib.hid (LD4.out.call hb)
        have QM4 := Lib.hid (QM3.out.call hb)
        have QN4 := Lib.hid (QN3.out.call hb)
        have OX4 := Lib.hid (OX3.out.call hb)
        have KX4 := Lib.hid (KX3.out.call hb)
        have OY4 := Lib.hid (OwnIn.call OY3.out hb (by omega))
        have zn4 := hb.size
        clear hb ho7 LD4 QM3 QN3 OX3 KX3 OY3
        go_wp2_with fail
        go_at_call 11
        refine (eqInt64S_any _ _ _ _ _ _ V4.heap.size V4.heap.size zs zs _ (OwnIn.ints OY4.out (by omega)) (OwnIn.ints O7.out (Nat.le_refl _)) hl9 hl9).mono ?_
        rintro e1 V5 ⟨rfl, m5, rfl⟩
        rw [show decide (zs = zs) = true by simp]
        have hb : Below V4.heap.size V4 (V4.drewN m5) := below_drewN (Below.refl _ _) m5
        have LD6 := Lib.hid (LD5.out.call hb)
        have QM5 := Lib.hid (QM4.out.call hb)
        have QN5 := Lib.hid (QN4.out.call hb)
        have OX5 := Lib.hid (OX4.out.call hb)
        have KX5 := Lib.hid (KX4.out.call hb)
        have OY5 := Lib.hid (OwnIn.call OY4.out hb (by omega))
        have zn5 := hb.size
        clear hb O7 LD5 QM4 QN4 OX4 KX4 OY4
        obtain ⟨-, u0, u1, u2, u3⟩ := KX5.out
        go_wp2_with fail
        go_at_call 13
        refine (markCalendar_any nm g3 k3 n n' _ _ _ _ cw 1 _ OX5.out hcn hcn' (by omega) (by omega)).mono ?_
        rintro e1 V6 ⟨rfl, ho⟩
        have hqh := QM5.out.hh
        have LD7 := Lib.hid (LD6.out.outer ho (by omega))
        have QM6 := Lib.hid (QM5.out.outer ho (by omega))
        have QN6 := Lib.hid (QN5.out.outer ho (by omega))
        have OY6 : Hid (OwnIn V6 ly W9.heap.size L5 l l zs) := Lib.hid (OwnIn.keep OY5.out (fun q h1 h2 => ho.block q (by omega) (by omega)))
        have zn6 := ho.size
        clear ho LD6 QM5 QN5 OX5 KX5 OY5 u0 u1 u2 u3
        go_wp2_with fail
        go_at_call 14
        refine (markInt64S_any _ _ _ _ zs _ _ OY6.out.1 hl2 (by omega) (by omega)).mono ?_
        rintro e1 V7 ⟨rfl, -, hg⟩
        have ho := Outer.of_own OY6.out hg
        have LD8 := Lib.hid (LD7.out.outer ho (by omega))
        have QM7 := Lib.hid (QM6.out.outer ho (by omega))
        have QN7 := Lib.hid (QN6.out.outer ho (by omega))
        have zn7 := ho.size
        clear ho hg LD7 QM6 QN6 OY6
        have kp : ¬ ((1 : Int) + 3 * (n : Int) + 3 * (n' : Int) + (l : Int) < 0) := by omega
        obtain ⟨a0, a1, a2, a3, a4, a5, a6, -⟩ := QN7.out.wk
        obtain ⟨b0, b1, b2, b3, b4, b5, b6, -⟩ := QM7.out.wk
        go_wp2_with fail
        go_at_call 25
        refine (eqPerpetual_same _ _ _ _ _ _ V7.heap.size V7.heap.size G r1 r2 r3 r4 r5 r6 _ (OwnIn.ints QN7.out.ow QN7.out.hh) (OwnIn.ints QM7.out.ow QM7.out.hh) (Nat.le_refl _) (Nat.le_refl _) (by omega) (by omega)).mono ?_
        rintro e1 V8 ⟨rfl, hb⟩
        have LD9 := Lib.hid (LD8.out.call hb)
        have QM8 := Lib.hid (QM7.out.call hb)
        have QN8 := Lib.hid (QN7.out.call hb)
        have zn8 := hb.size
        clear hb LD8 QM7 QN7
        clear a0 a1 a2 a3 a4 a5 a6 b0 b1 b2 b3 b4 b5 b6
        obtain ⟨a0, a1, a2, a3, a4, a5, a6, -⟩ := QN8.out.wk
        go_wp2_with fail
        go_at_call 26
        refine (markPerpetual_any _ _ _ _ _ G r1 r2 r3 r4 r5 r6 1 _ QN8.out.ow QN8.out.hh hmm (by omega) (by omega)).mono ?_
        rintro e1 V9 ⟨rfl, ho9, hg⟩
        have ho := Outer.of_own QN8.out.ow hg
        have LD10 := Lib.hid (LD9.out.outer ho (by omega))
        have QM9 := Lib.hid (QM8.out.outer ho (by omega))
        have QN9 := Lib.hid (QN8.out.mark ho9 hg)
        have zn9 := ho.size
        clear ho hg ho9 LD9 QM8 QN8 a0 a1 a2 a3 a4 a5 a6
        obtain ⟨a0, a1, a2, a3, a4, a5, a6, -⟩ := QN9.out.wk
        go_wp2_with fail
        go_at_call 27
        refine (heldPerpetual_any _ _ _ V9.heap.size 1 r1 r2 r3 r4 r5 r6 _ (OwnIn.ints QN9.out.ow QN9.out.hh) (Nat.le_refl _) hmm (by omega) (by omega)).mono ?_
        rintro e1 W0 ⟨rfl, hb⟩
        have LD1 := Lib.hid (LD10.out.call hb)
        have QM := Lib.hid (QM9.out.call hb)
        have QN := Lib.hid (QN9.out.call hb)
        have zn10 := hb.size
        clear hb LD10 QM9 QN9 a0 a1 a2 a3 a4 a5 a6
        have kq : ¬ ((1 : Int) + (mm : Int) < 0) := by omega
        go_upto_region 30 with fail
        go_cut [19, 20] (fun p q wx => q = .int .i64 cd ∧ Res W0 wx p mm G r1 r2 r3 r4 r5 r6)
        case first =>
          obtain ⟨zc, u0, u1, u2, u3⟩ := LD1.out.cal
          obtain ⟨t0, t1, t2, -⟩ := LD1.out.dt
          have zd := LD1.out.dt.lt
          have yb := LD1.out.bl
          have yr := Below.refl W0.heap.size W0
          refine wp_region_held_drew (S := (fun w' => w'.cell? ⟨w.heap.size, 0, none⟩ = some (.string nm) ∧ w'.cell? ⟨w.heap.size, 1, none⟩ = some (.slice A n c) ∧ w'.cell? ⟨w.heap.size, 2, none⟩ = some (.slice A' n' c') ∧ w'.cell? ⟨w.heap.size, 3, none⟩ = some (.int .i64 cw) ∧ w'.cell? ⟨w.heap.size + 1, 0, none⟩ = some (.int .i64 y) ∧ w'.cell? ⟨w.heap.size + 1, 1, none⟩ = some (.int .i64 m) ∧ w'.cell? ⟨w.heap.size + 1, 2, none⟩ = some (.int .i64 d) ∧ w.heap.size < w'.heap.size ∧ w.heap.size + 1 < w'.heap.size ∧ Below w.heap.size w w' ∧ Below W0.heap.size W0 w')) (by kernel_rfl) ?_ (fun hHeld => ?_)
          · (try dsimp only); (first | ((try go_split_ands); (try dsimp only); refine ⟨?_, ?_, ?_, ?_, ?_, ?_, ?_, ?_, ?_, ?_, ?_⟩ <;> first | (exact cell_call (by assumption) (by assumption) (by assumption)) | (exact lt_call (by assumption) (by assumption)) | (exact below_call' (by assumption) (by assumption)) | (exact Below.drew (by assumption)) | (with_reducible assumption) | (simp; done) | (simp [*]; done) | ((repeat (first | with_reducible exact Below.refl _ _ | with_reducible refine below_alloc ?_ _ | with_reducible refine below_drewN ?_ _ | with_reducible refine Below.drew ?_ | ((with_reducible refine below_set ?_ ?_ _); rotate_left; (focus (first | (simp; done) | (simp; omega) | omega))) | with_reducible refine below_call ?_ (by assumption))); done) | omega | (simp; omega) | (simp [go_sem]; done) | (simp [go_sem, *]; done)))
          (refine wpAnyH_take (i := 0) (v := ?_) rfl (by kernel_rfl) (by kernel_rfl) (by kernel_rfl) (fun _ _ _ h => h) (Or.inl ⟨by kernel_rfl, ?_⟩) (by assumption) ?_; rotate_left; (focus (intro w hSw; (try dsimp only at hSw); go_simp; (try with_reducible rfl))); (try simp only [Act.put, List.getElem_toArray, List.getElem_cons_zero, List.getElem_cons_succ, List.setIfInBounds_toArray, List.set_cons_zero, List.set_cons_succ]))
          (refine wpAnyH_take (i := 2) (v := ?_) rfl (by kernel_rfl) (by kernel_rfl) (by kernel_rfl) (fun _ _ _ h => h) (Or.inl ⟨by kernel_rfl, ?_⟩) (by assumption) ?_; rotate_left; (focus (intro w hSw; (try dsimp only at hSw); go_simp; (try with_reducible rfl))); (try simp only [Act.put, List.getElem_toArray, List.getElem_cons_zero, List.getElem_cons_succ, List.setIfInBounds_toArray, List.set_cons_zero, List.set_cons_succ]))
          (refine wpAnyH_take (i := 4) (v := ?_) rfl (by kernel_rfl) (by kernel_rfl) (by kernel_rfl) (fun _ _ _ h => h) (Or.inl ⟨by kernel_rfl, ?_⟩) (by assumption) ?_; rotate_left; (focus (intro w hSw; (try dsimp only at hSw); go_simp; (try with_reducible rfl))); (try simp only [Act.put, List.getElem_toArray, List.getElem_cons_zero, List.getElem_cons_succ, List.setIfInBounds_toArray, List.set_cons_zero, List.set_cons_succ]))
          (refine wpAnyH_take (i := 6) (v := ?_) rfl (by kernel_rfl) (by kernel_rfl) (by kernel_rfl) (fun _ _ _ h => h) (Or.inl ⟨by kernel_rfl, ?_⟩) (by assumption) ?_; rotate_left; (focus (intro w hSw; (try dsimp only at hSw); go_simp; (try with_reducible rfl))); (try simp only [Act.put, List.getElem_toArray, List.getElem_cons_zero, List.getElem_cons_succ, List.setIfInBounds_toArray, List.set_cons_zero, List.set_cons_succ]))
          refine wpAnyH_ready (rs := [1, 11]) (by kernel_rfl) (by simp) ?_
          refine AllReadyH.cons rfl (fun K hK => ?_) (AllReadyH.cons rfl (fun K hK => ?_) (AllReadyH.nil))
          · ((try simp only [List.getElem_toArray, List.getElem_cons_zero, List.getElem_cons_succ]); (try rw [if_pos (by kernel_rfl)]); go_simp; (go_at_call 9; refine (CT.out _ (by go_split_ands; assumption)).mono ?_; rintro e1 w3 ⟨g3, k3, rfl, ho3, hb3⟩; have O3 := Lib.hid ho3; clear ho3); (try dsimp only); refine hK.out _ _ ?_ (fun hHeld => ?_); (focus ((try dsimp only); (first | ((try go_split_ands); (try dsimp only); refine ⟨?_, ?_, ?_, ?_, ?_, ?_, ?_, ?_, ?_, ?_, ?_⟩ <;> first | (exact cell_call (by assumption) (by assumption) (by assumption)) | (exact lt_call (by assumption) (by assumption)) | (exact below_call' (by assumption) (by assumption)) | (exact Below.drew (by assumption)) | (with_reducible assumption) | (simp; done) | (simp [*]; done) | ((repeat (first | with_reducible exact Below.refl _ _ | with_reducible refine below_alloc ?_ _ | with_reducible refine below_drewN ?_ _ | with_reducible refine Below.drew ?_ | ((with_reducible refine below_set ?_ ?_ _); rotate_left; (focus (first | (simp; done) | (simp; omega) | omega))) | with_reducible refine below_call ?_ (by assumption))); done) | omega | (simp; omega) | (simp [go_sem]; done) | (simp [go_sem, *]; done))))); clear hK K; (try simp only [Act.put, List.getElem_toArray, List.getElem_cons_zero, List.getElem_cons_succ, List.setIfInBounds_toArray, List.set_cons_zero, List.set_cons_succ]))
            have BZ1 := Lib.hid (show Below W0.heap.size W0 w3 by go_split_ands; assumption)
            refine wpAnyH_ready (rs := [3, 11]) (by kernel_rfl) (by simp) ?_
            refine AllReadyH.cons rfl (fun K hK => ?_) (AllReadyH.cons rfl (fun K hK => ?_) (AllReadyH.nil))
            · ((try simp only [List.getElem_toArray, List.getElem_cons_zero, List.getElem_cons_succ]); (try rw [if_pos (by kernel_rfl)]); go_simp; (go_at_call 17; refine (IT.out _ (by go_split_ands; assumption)).mono ?_; rintro e1 w4 ⟨L4, rfl, ho4, hb4⟩; have O4 := Lib.hid ho4; clear ho4); (try dsimp only); refine hK.out _ _ ?_ (fun hHeld => ?_); (focus ((try dsimp only); (first | ((try go_split_ands); (try dsimp only); refine ⟨?_, ?_, ?_, ?_, ?_, ?_, ?_, ?_, ?_, ?_, ?_⟩ <;> first | (exact cell_call (by assumption) (by assumption) (by assumption)) | (exact lt_call (by assumption) (by assumption)) | (exact below_call' (by assumption) (by assumption)) | (exact Below.drew (by assumption)) | (with_reducible assumption) | (simp; done) | (simp [*]; done) | ((repeat (first | with_reducible exact Below.refl _ _ | with_reducible refine below_alloc ?_ _ | with_reducible refine below_drewN ?_ _ | with_reducible refine Below.drew ?_ | ((with_reducible refine below_set ?_ ?_ _); rotate_left; (focus (first | (simp; done) | (simp; omega) | omega))) | with_reducible refine below_call ?_ (by assumption))); done) | omega | (simp; omega) | (simp [go_sem]; done) | (simp [go_sem, *]; done))))); clear hK K; (try simp only [Act.put, List.getElem_toArray, List.getElem_cons_zero, List.getElem_cons_succ, List.setIfInBounds_toArray, List.set_cons_zero, List.set_cons_succ]))
              have BZ2 := Lib.hid (show Below W0.heap.size W0 w4 by go_split_ands; assumption)
              refine wpAnyH_ready (rs := [5, 11]) (by kernel_rfl) (by simp) ?_
              refine AllReadyH.cons rfl (fun K hK => ?_) (AllReadyH.cons rfl (fun K hK => ?_) (AllReadyH.nil))
              · ((try simp only [List.getElem_toArray, List.getElem_cons_zero, List.getElem_cons_succ]); (try rw [if_pos (by kernel_rfl)]); go_simp; (go_at_call 23; refine (toDate_any _ _ _ _).mono ?_; rintro e1 w5 ⟨rfl, hb5⟩); (try dsimp only); refine hK.out _ _ ?_ (fun hHeld => ?_); (focus ((try dsimp only); (first | ((try go_split_ands); (try dsimp only); refine ⟨?_, ?_, ?_, ?_, ?_, ?_, ?_, ?_, ?_, ?_, ?_⟩ <;> first | (exact cell_call (by assumption) (by assumption) (by assumption)) | (exact lt_call (by assumption) (by assumption)) | (exact below_call' (by assumption) (by assumption)) | (exact Below.drew (by assumption)) | (with_reducible assumption) | (simp; done) | (simp [*]; done) | ((repeat (first | with_reducible exact Below.refl _ _ | with_reducible refine below_alloc ?_ _ | with_reducible refine below_drewN ?_ _ | with_reducible refine Below.drew ?_ | ((with_reducible refine below_set ?_ ?_ _); rotate_left; (focus (first | (simp; done) | (simp; omega) | omega))) | with_reducible refine below_call ?_ (by assumption))); done) | omega | (simp; omega) | (simp [go_sem]; done) | (simp [go_sem, *]; done))))); clear hK K; (try simp only [Act.put, List.getElem_toArray, List.getElem_cons_zero, List.getElem_cons_succ, List.setIfInBounds_toArray, List.set_cons_zero, List.set_cons_succ]))
                have BZ3 := Lib.hid (show Below W0.heap.size W0 w5 by go_split_ands; assumption)
                refine wpAnyH_ready (rs := [7, 11]) (by kernel_rfl) (by simp) ?_
                refine AllReadyH.cons rfl (fun K hK => ?_) (AllReadyH.cons rfl (fun K hK => ?_) (AllReadyH.nil))
                · ((try simp only [List.getElem_toArray, List.getElem_cons_zero, List.getElem_cons_succ]); (try rw [if_pos (by kernel_rfl)]); go_simp; (go_at_call 24; refine (C2.out _ _ _ _ (Own2.months (((O3.out).call hb4).call hb5)) (Own2.rules (((O3.out).call hb4).call hb5)) (Own.ints (Own.call (O4.out) hb5) (Nat.le_refl _))).mono ?_; rintro e1 w6 ⟨L6, c6, rfl, ho6, hb6⟩; have HO6 := Lib.hid ho6; clear ho6); (try dsimp only); refine hK.out _ _ ?_ (fun hHeld => ?_); (focus ((try dsimp only); (first | ((try go_split_ands); (try dsimp only); refine ⟨?_, ?_, ?_, ?_, ?_, ?_, ?_, ?_, ?_, ?_, ?_⟩ <;> first | (exact cell_call (by assumption) (by assumption) (by assumption)) | (exact lt_call (by assumption) (by assumption)) | (exact below_call' (by assumption) (by assumption)) | (exact Below.drew (by assumption)) | (with_reducible assumption) | (simp; done) | (simp [*]; done) | ((repeat (first | with_reducible exact Below.refl _ _ | with_reducible refine below_alloc ?_ _ | with_reducible refine below_drewN ?_ _ | with_reducible refine Below.drew ?_ | ((with_reducible refine below_set ?_ ?_ _); rotate_left; (focus (first | (simp; done) | (simp; omega) | omega))) | with_reducible refine below_call ?_ (by assumption))); done) | omega | (simp; omega) | (simp [go_sem]; done) | (simp [go_sem, *]; done))))); clear hK K; (try simp only [Act.put, List.getElem_toArray, List.getElem_cons_zero, List.getElem_cons_succ, List.setIfInBounds_toArray, List.set_cons_zero, List.set_cons_succ]))
                  have BZ4 := Lib.hid (show Below W0.heap.size W0 w6 by go_split_ands; assumption)
                  (refine wpAnyH_take (i := 8) (v := ?_) rfl (by kernel_rfl) (by kernel_rfl) (by kernel_rfl) (fun _ _ _ h => h) (Or.inl ⟨by kernel_rfl, ?_⟩) (by assumption) ?_; rotate_left; (focus (intro w hSw; (try dsimp only at hSw); go_simp; (try with_reducible rfl))); (try simp only [Act.put, List.getElem_toArray, List.getElem_cons_zero, List.getElem_cons_succ, List.setIfInBounds_toArray, List.set_cons_zero, List.set_cons_succ]))
                  (refine wpAnyH_take (i := 9) (v := ?_) rfl (by kernel_rfl) (by kernel_rfl) (by kernel_rfl) (fun _ _ _ h => h) (Or.inl ⟨by kernel_rfl, ?_⟩) (by assumption) ?_; rotate_left; (focus (intro w hSw; (try dsimp only at hSw); go_simp; (try with_reducible rfl))); (try simp only [Act.put, List.getElem_toArray, List.getElem_cons_zero, List.getElem_cons_succ, List.setIfInBounds_toArray, List.set_cons_zero, List.set_cons_succ]))
                  (refine wpAnyH_take (i := 10) (v := ?_) rfl (by kernel_rfl) (by kernel_rfl) (by kernel_rfl) (fun _ _ _ h => h) (Or.inl ⟨by kernel_rfl, ?_⟩) (by assumption) ?_; rotate_left; (focus (intro w hSw; (try dsimp only at hSw); go_simp; (try with_reducible rfl))); (try simp only [Act.put, List.getElem_toArray, List.getElem_cons_zero, List.getElem_cons_succ, List.setIfInBounds_toArray, List.set_cons_zero, List.set_cons_succ]))
                  refine wpAnyH_ready (rs := [11]) (by kernel_rfl) (by simp) ?_
                  refine AllReadyH.cons rfl (fun K hK => ?_) (AllReadyH.nil)
                  (try simp only [List.getElem_toArray, List.getElem_cons_zero, List.getElem_cons_succ])
                  (try rw [if_pos (by kernel_rfl)])
                  go_simp
                  refine hK.out _ _ ?_ (fun hHeld => ?_)
                  · go_split_ands
                    refine ⟨?_, ?_, ?_, ?_, ?_, ?_, ?_, ?_, ?_, ?_, ?_⟩ <;> first | exact cell_call (alb _ _) (by assumption) (by assumption) | exact lt_call (alb _ _) (by assumption) | exact below_alloc (by assumption) _ | exact below_ad (by assumption) _
                  clear hK K
                  (try simp only [Act.put, List.getElem_toArray, List.getElem_cons_zero, List.getElem_cons_succ, List.setIfInBounds_toArray, List.set_cons_zero, List.set_cons_succ])
                  refine wpAnyH_ready (rs := [12]) (by kernel_rfl) (by simp) ?_
                  refine AllReadyH.cons rfl (fun K hK => ?_) (AllReadyH.nil)
                  (try simp only [List.getElem_toArray, List.getElem_cons_zero, List.getElem_cons_succ])
                  (try rw [if_pos (by kernel_rfl)])
                  go_simp
                  refine hK.out _ _ ?_ (fun hHeld => ?_)
                  · go_split_ands
                    refine ⟨?_, ?_, ?_, ?_, ?_, ?_, ?_, ?_, ?_, ?_, ?_⟩ <;> first | exact cell_call (alb _ _) (by assumption) (by assumption) | exact lt_call (alb _ _) (by assumption) | exact below_alloc (by assumption) _ | exact below_ad (by assumption) _
                  clear hK K
                  (try simp only [Act.put, List.getElem_toArray, List.getElem_cons_zero, List.getElem_cons_succ, List.setIfInBounds_toArray, List.set_cons_zero, List.set_cons_succ])
                  (refine wpAnyH_take (i := 13) (v := ?_) rfl (by kernel_rfl) (by kernel_rfl) (by kernel_rfl) (fun _ _ _ h => h) (Or.inl ⟨by kernel_rfl, ?_⟩) (by assumption) ?_; rotate_left; (focus (intro w hSw; (try dsimp only at hSw); go_simp; (try with_reducible rfl))); (try simp only [Act.put, List.getElem_toArray, List.getElem_cons_zero, List.getElem_cons_succ, List.setIfInBounds_toArray, List.set_cons_zero, List.set_cons_succ]))
                  refine wpAnyH_done (by kernel_rfl) ?_ _
                  go_wp2_with fail
                  go_meet
                  exact ⟨rfl, res_new 50 HO6.out BZ3.out.size BZ4.out⟩
                · (try simp only [List.getElem_toArray, List.getElem_cons_zero, List.getElem_cons_succ])
                  (try rw [if_pos (by kernel_rfl)])
                  go_simp
                  refine hK.out _ _ ?_ (fun hHeld => ?_)
                  · go_split_ands
                    refine ⟨?_, ?_, ?_, ?_, ?_, ?_, ?_, ?_, ?_, ?_, ?_⟩ <;> first | exact cell_call (alb _ _) (by assumption) (by assumption) | exact lt_call (alb _ _) (by assumption) | exact below_alloc (by assumption) _ | exact below_ad (by assumption) _
                  clear hK K
                  (try simp only [Act.put, List.getElem_toArray, List.getElem_cons_zero, List.getElem_cons_succ, List.setIfInBounds_toArray, List.set_cons_zero, List.set_cons_succ])
                  refine wpAnyH_ready (rs := [7]) (by kernel_rfl) (by simp) ?_
                  refine AllReadyH.cons rfl (fun K hK => ?_) (AllReadyH.nil)
                  ((try simp only [List.getElem_toArray, List.getElem_cons_zero, List.getElem_cons_succ]); (try rw [if_pos (by kernel_rfl)]); go_simp; (go_at_call 24; refine (C2.out _ _ _ _ (Own2.months ((((O3.out).call hb4).call hb5).call (alb _ _))) (Own2.rules ((((O3.out).call hb4).call hb5).call (alb _ _))) (Own.ints (Own.call (Own.call (O4.out) hb5) (alb _ _)) (Nat.le_refl _))).mono ?_; rintro e1 w6 ⟨L6, c6, rfl, ho6, hb6⟩; have HO6 := Lib.hid ho6; clear ho6); (try dsimp only); refine hK.out _ _ ?_ (fun hHeld => ?_); (focus ((try dsimp only); (first | ((try go_split_ands); (try dsimp only); refine ⟨?_, ?_, ?_, ?_, ?_, ?_, ?_, ?_, ?_, ?_, ?_⟩ <;> first | (exact cell_call (by assumption) (by assumption) (by assumption)) | (exact lt_call (by assumption) (by assumption)) | (exact below_call' (by assumption) (by assumption)) | (exact Below.drew (by assumption)) | (with_reducible assumption) | (simp; done) | (simp [*]; done) | ((repeat (first | with_reducible exact Below.refl _ _ | with_reducible refine below_alloc ?_ _ | with_reducible refine below_drewN ?_ _ | with_reducible refine Below.drew ?_ | ((with_reducible refine below_set ?_ ?_ _); rotate_left; (focus (first | (simp; done) | (simp; omega) | omega))) | with_reducible refine below_call ?_ (by assumption))); done) | omega | (simp; omega) | (simp [go_sem]; done) | (simp [go_sem, *]; done))))); clear hK K; (try simp only [Act.put, List.getElem_toArray, List.getElem_cons_zero, List.getElem_cons_succ, List.setIfInBounds_toArray, List.set_cons_zero, List.set_cons_succ]))
                  (refine wpAnyH_take (i := 8) (v := ?_) rfl (by kernel_rfl) (by kernel_rfl) (by kernel_rfl) (fun _ _ _ h => h) (Or.inl ⟨by kernel_rfl, ?_⟩) (by assumption) ?_; rotate_left; (focus (intro w hSw; (try dsimp only at hSw); go_simp; (try with_reducible rfl))); (try simp only [Act.put, List.getElem_toArray, List.getElem_cons_zero, List.getElem_cons_succ, List.setIfInBounds_toArray, List.set_cons_zero, List.set_cons_succ]))
                  (refine wpAnyH_take (i := 9) (v := ?_) rfl (by kernel_rfl) (by kernel_rfl) (by kernel_rfl) (fun _ _ _ h => h) (Or.inl ⟨by kernel_rfl, ?_⟩) (by assumption) ?_; rotate_left; (focus (intro w hSw; (try dsimp only at hSw); go_simp; (try with_reducible rfl))); (try simp only [Act.put, List.getElem_toArray, List.getElem_cons_zero, List.getElem_cons_succ, List.setIfInBounds_toArray, List.set_cons_zero, List.set_cons_succ]))
                  (refine wpAnyH_take (i := 10) (v := ?_) rfl (by kernel_rfl) (by kernel_rfl) (by kernel_rfl) (fun _ _ _ h => h) (Or.inl ⟨by kernel_rfl, ?_⟩) (by assumption) ?_; rotate_left; (focus (intro w hSw; (try dsimp only at hSw); go_simp; (try with_reducible rfl))); (try simp only [Act.put, List.getElem_toArray, List.getElem_cons_zero, List.getElem_cons_succ, List.setIfInBounds_toArray, List.set_cons_zero, List.set_cons_succ]))
                  have BW : Below W0.heap.size W0 w6 := by go_split_ands; assumption
                  have WG : Work w6 w5.heap.size (.slice none 0 0) 0 0 0 0 0 0 := (work_new w5 50 (.slice none 0 0) 0 0 0 0 0 0).call hb6
                  have WG2 := Lib.hid WG
                  have hgz : W0.heap.size ≤ w5.heap.size := by have hh := BZ3.out.size; exact hh
                  obtain ⟨p0, p1, p2, p3, p4, p5, p6, pf⟩ := WG
                  have f0 := pf 0
                  have f1 := pf 1
                  have f2 := pf 2
                  have f3 := pf 3
                  have f4 := pf 4
                  have f5 := pf 5
                  have f6 := pf 6
                  clear pf
                  refine wpAnyH_ready (rs := [12]) (by kernel_rfl) (by simp) ?_
                  refine AllReadyH.cons rfl (fun K hK => ?_) (AllReadyH.nil)
                  (try simp only [List.getElem_toArray, List.getElem_cons_zero, List.getElem_cons_succ])
                  (try rw [if_pos (by kernel_rfl)])
                  go_simp
                  refine hK.out _ _ ?_ (fun hHeld => ?_)
                  · go_split_ands
                    refine ⟨?_, ?_, ?_, ?_, ?_, ?_, ?_, ?_, ?_, ?_, ?_⟩ <;> first | (refine Eq.trans (World.cell?_of_block (set7_heap _ ?_)) ?_ <;> first | assumption | (dsimp only; omega)) | exact below_set7 (by assumption) (by omega) | (simp; assumption)
                  clear hK K
                  (try simp only [Act.put, List.getElem_toArray, List.getElem_cons_zero, List.getElem_cons_succ, List.setIfInBounds_toArray, List.set_cons_zero, List.set_cons_succ])
                  (refine wpAnyH_take (i := 13) (v := ?_) rfl (by kernel_rfl) (by kernel_rfl) (by kernel_rfl) (fun _ _ _ h => h) (Or.inl ⟨by kernel_rfl, ?_⟩) (by assumption) ?_; rotate_left; (focus (intro w hSw; (try dsimp only at hSw); go_simp; (try with_reducible rfl))); (try simp only [Act.put, List.getElem_toArray, List.getElem_cons_zero, List.getElem_cons_succ, List.setIfInBounds_toArray, List.set_cons_zero, List.set_cons_succ]))
                  refine wpAnyH_done (by kernel_rfl) ?_ _
                  go_wp2_with fail
                  go_meet
                  refine ⟨rfl, res_set WG2.out HO6.out ?_ hgz BW⟩
                  refine Nat.lt_of_lt_of_le (show w5.heap.size < (w5.alloc (.cells #[.slice none 0 0, .int .i64 0, .int .i64 0, .int .i64 0, .int .i64 0, .int .i64 0, .int .i64 0] 50)).heap.size by simp) ?_
                  exact Nat.le_refl _
              · (try simp only [List.getElem_toArray, List.getElem_cons_zero, List.getElem_cons_succ])
                (try rw [if_pos (by kernel_rfl)])
                go_simp
                refine hK.out _ _ ?_ (fun hHeld => ?_)
                · go_split_ands
                  refine ⟨?_, ?_, ?_, ?_, ?_, ?_, ?_, ?_, ?_, ?_, ?_⟩ <;> first | exact cell_call (alb _ _) (by assumption) (by assumption) | exact lt_call (alb _ _) (by assumption) | exact below_alloc (by assumption) _ | exact below_ad (by assumption) _
                clear hK K
                (try simp only [Act.put, List.getElem_toArray, List.getElem_cons_zero, List.getElem_cons_succ, List.setIfInBounds_toArray, List.set_cons_zero, List.set_cons_succ])
                refine wpAnyH_ready (rs := [5]) (by kernel_rfl) (by simp) ?_
                refine AllReadyH.cons rfl (fun K hK => ?_) (AllReadyH.nil)
                ((try simp only [List.getElem_toArray, List.getElem_cons_zero, List.getElem_cons_succ]); (try rw [if_pos (by kernel_rfl)]); go_simp; (go_at_call 23; refine (toDate_any _ _ _ _).mono ?_; rintro e1 w5 ⟨rfl, hb5⟩); (try dsimp only); refine hK.out _ _ ?_ (fun hHeld => ?_); (focus ((try dsimp only); (first | ((try go_split_ands); (try dsimp only); refine ⟨?_, ?_, ?_, ?_, ?_, ?_, ?_, ?_, ?_, ?_, ?_⟩ <;> first | (exact cell_call (by assumption) (by assumption) (by assumption)) | (exact lt_call (by assumption) (by assumption)) | (exact below_call' (by assumption) (by assumption)) | (exact Below.drew (by assumption)) | (with_reducible assumption) | (simp; done) | (simp [*]; done) | ((repeat (first | with_reducible exact Below.refl _ _ | with_reducible refine below_alloc ?_ _ | with_reducible refine below_drewN ?_ _ | with_reducible refine Below.drew ?_ | ((with_reducible refine below_set ?_ ?_ _); rotate_left; (focus (first | (simp; done) | (simp; omega) | omega))) | with_reducible refine below_call ?_ (by assumption))); done) | omega | (simp; omega) | (simp [go_sem]; done) | (simp [go_sem, *]; done))))); clear hK K; (try simp only [Act.put, List.getElem_toArray, List.getElem_cons_zero, List.getElem_cons_succ, List.setIfInBounds_toArray, List.set_cons_zero, List.set_cons_succ]))
                refine wpAnyH_ready (rs := [7]) (by kernel_rfl) (by simp) ?_
                refine AllReadyH.cons rfl (fun K hK => ?_) (AllReadyH.nil)
                ((try simp only [List.getElem_toArray, List.getElem_cons_zero, List.getElem_cons_succ]); (try rw [if_pos (by kernel_rfl)]); go_simp; (go_at_call 24; refine (C2.out _ _ _ _ (Own2.months ((((O3.out).call hb4).call (alb _ _)).call hb5)) (Own2.rules ((((O3.out).call hb4).call (alb _ _)).call hb5)) (Own.ints (Own.call (Own.call (O4.out) (alb _ _)) hb5) (Nat.le_refl _))).mono ?_; rintro e1 w6 ⟨L6, c6, rfl, ho6, hb6⟩; have HO6 := Lib.hid ho6; clear ho6); (try dsimp only); refine hK.out _ _ ?_ (fun hHeld => ?_); (focus ((try dsimp only); (first | ((try go_split_ands); (try dsimp only); refine ⟨?_, ?_, ?_, ?_, ?_, ?_, ?_, ?_, ?_, ?_, ?_⟩ <;> first | (exact cell_call (by assumption) (by assumption) (by assumption)) | (exact lt_call (by assumption) (by assumption)) | (exact below_call' (by assumption) (by assumption)) | (exact Below.drew (by assumption)) | (with_reducible assumption) | (simp; done) | (simp [*]; done) | ((repeat (first | with_reducible exact Below.refl _ _ | with_reducible refine below_alloc ?_ _ | with_reducible refine below_drewN ?_ _ | with_reducible refine Below.drew ?_ | ((with_reducible refine below_set ?_ ?_ _); rotate_left; (focus (first | (simp; done) | (simp; omega) | omega))) | with_reducible refine below_call ?_ (by assumption))); done) | omega | (simp; omega) | (simp [go_sem]; done) | (simp [go_sem, *]; done))))); clear hK K; (try simp only [Act.put, List.getElem_toArray, List.getElem_cons_zero, List.getElem_cons_succ, List.setIfInBounds_toArray, List.set_cons_zero, List.set_cons_succ]))
                (refine wpAnyH_take (i := 8) (v := ?_) rfl (by kernel_rfl) (by kernel_rfl) (by kernel_rfl) (fun _ _ _ h => h) (Or.inl ⟨by kernel_rfl, ?_⟩) (by assumption) ?_; rotate_left; (focus (intro w hSw; (try dsimp only at hSw); go_simp; (try with_reducible rfl))); (try simp only [Act.put, List.getElem_toArray, List.getElem_cons_zero, List.getElem_cons_succ, List.setIfInBounds_toArray, List.set_cons_zero, List.set_cons_succ]))
                (refine wpAnyH_take (i := 9) (v := ?_) rfl (by kernel_rfl) (by kernel_rfl) (by kernel_rfl) (fun _ _ _ h => h) (Or.inl ⟨by kernel_rfl, ?_⟩) (by assumption) ?_; rotate_left; (focus (intro w hSw; (try dsimp only at hSw); go_simp; (try with_reducible rfl))); (try simp only [Act.put, List.getElem_toArray, List.getElem_cons_zero, List.getElem_cons_succ, List.setIfInBounds_toArray, List.set_cons_zero, List.set_cons_succ]))
                (refine wpAnyH_take (i := 10) (v := ?_) rfl (by kernel_rfl) (by kernel_rfl) (by kernel_rfl) (fun _ _ _ h => h) (Or.inl ⟨by kernel_rfl, ?_⟩) (by assumption) ?_; rotate_left; (focus (intro w hSw; (try dsimp only at hSw); go_simp; (try with_reducible rfl))); (try simp only [Act.put, List.getElem_toArray, List.getElem_cons_zero, List.getElem_cons_succ, List.setIfInBounds_toArray, List.set_cons_zero, List.set_cons_succ]))
                have BW : Below W0.heap.size W0 w6 := by go_split_ands; assumption
                have WG : Work w6 w4.heap.size (.slice none 0 0) 0 0 0 0 0 0 := ((work_new w4 50 (.slice none 0 0) 0 0 0 0 0 0).call hb5).call hb6
                have WG2 := Lib.hid WG
                have hgz : W0.heap.size ≤ w4.heap.size := by have hh := BZ2.out.size; exact hh
                obtain ⟨p0, p1, p2, p3, p4, p5, p6, pf⟩ := WG
                have f0 := pf 0
                have f1 := pf 1
                have f2 := pf 2
                have f3 := pf 3
                have f4 := pf 4
                have f5 := pf 5
                have f6 := pf 6
                clear pf
                refine wpAnyH_ready (rs := [12]) (by kernel_rfl) (by simp) ?_
                refine AllReadyH.cons rfl (fun K hK => ?_) (AllReadyH.nil)
                (try simp only [List.getElem_toArray, List.getElem_cons_zero, List.getElem_cons_succ])
                (try rw [if_pos (by kernel_rfl)])
                go_simp
                refine hK.out _ _ ?_ (fun hHeld => ?_)
                · go_split_ands
                  refine ⟨?_, ?_, ?_, ?_, ?_, ?_, ?_, ?_, ?_, ?_, ?_⟩ <;> first | (refine Eq.trans (World.cell?_of_block (set7_heap _ ?_)) ?_ <;> first | assumption | (dsimp only; omega)) | exact below_set7 (by assumption) (by omega) | (simp; assumption)
                clear hK K
                (try simp only [Act.put, List.getElem_toArray, List.getElem_cons_zero, List.getElem_cons_succ, List.setIfInBounds_toArray, List.set_cons_zero, List.set_cons_succ])
                (refine wpAnyH_take (i := 13) (v := ?_) rfl (by kernel_rfl) (by kernel_rfl) (by kernel_rfl) (fun _ _ _ h => h) (Or.inl ⟨by kernel_rfl, ?_⟩) (by assumption) ?_; rotate_left; (focus (intro w hSw; (try dsimp only at hSw); go_simp; (try with_reducible rfl))); (try simp only [Act.put, List.getElem_toArray, List.getElem_cons_zero, List.getElem_cons_succ, List.setIfInBounds_toArray, List.set_cons_zero, List.set_cons_succ]))
                refine wpAnyH_done (by kernel_rfl) ?_ _
                go_wp2_with fail
                go_meet
                refine ⟨rfl, res_set WG2.out HO6.out ?_ hgz BW⟩
                refine Nat.lt_of_lt_of_le (show w4.heap.size < (w4.alloc (.cells #[.slice none 0 0, .int .i64 0, .int .i64 0, .int .i64 0, .int .i64 0, .int .i64 0, .int .i64 0] 50)).heap.size by simp) ?_
                exact hb5.size
            · (try simp only [List.getElem_toArray, List.getElem_cons_zero, List.getElem_cons_succ])
              (try rw [if_pos (by kernel_rfl)])
              go_simp
              refine hK.out _ _ ?_ (fun hHeld => ?_)
              · go_split_ands
                refine ⟨?_, ?_, ?_, ?_, ?_, ?_, ?_, ?_, ?_, ?_, ?_⟩ <;> first | exact cell_call (alb _ _) (by assumption) (by assumption) | exact lt_call (alb _ _) (by assumption) | exact below_alloc (by assumption) _ | exact below_ad (by assumption) _
              clear hK K
              (try simp only [Act.put, List.getElem_toArray, List.getElem_cons_zero, List.getElem_cons_succ, List.setIfInBounds_toArray, List.set_cons_zero, List.set_cons_succ])
              refine wpAnyH_ready (rs := [3]) (by kernel_rfl) (by simp) ?_
              refine AllReadyH.cons rfl (fun K hK => ?_) (AllReadyH.nil)
              ((try simp only [List.getElem_toArray, List.getElem_cons_zero, List.getElem_cons_succ]); (try rw [if_pos (by kernel_rfl)]); go_simp; (go_at_call 17; refine (IT.out _ (by go_split_ands; assumption)).mono ?_; rintro e1 w4 ⟨L4, rfl, ho4, hb4⟩; have O4 := Lib.hid ho4; clear ho4); (try dsimp only); refine hK.out _ _ ?_ (fun hHeld => ?_); (focus ((try dsimp only); (first | ((try go_split_ands); (try dsimp only); refine ⟨?_, ?_, ?_, ?_, ?_, ?_, ?_, ?_, ?_, ?_, ?_⟩ <;> first | (exact cell_call (by assumption) (by assumption) (by assumption)) | (exact lt_call (by assumption) (by assumption)) | (exact below_call' (by assumption) (by assumption)) | (exact Below.drew (by assumption)) | (with_reducible assumption) | (simp; done) | (simp [*]; done) | ((repeat (first | with_reducible exact Below.refl _ _ | with_reducible refine below_alloc ?_ _ | with_reducible refine below_drewN ?_ _ | with_reducible refine Below.drew ?_ | ((with_reducible refine below_set ?_ ?_ _); rotate_left; (focus (first | (simp; done) | (simp; omega) | omega))) | with_reducible refine below_call ?_ (by assumption))); done) | omega | (simp; omega) | (simp [go_sem]; done) | (simp [go_sem, *]; done))))); clear hK K; (try simp only [Act.put, List.getElem_toArray, List.getElem_cons_zero, List.getElem_cons_succ, List.setIfInBounds_toArray, List.set_cons_zero, List.set_cons_succ]))
              refine wpAnyH_ready (rs := [5]) (by kernel_rfl) (by simp) ?_
              refine AllReadyH.cons rfl (fun K hK => ?_) (AllReadyH.nil)
              ((try simp only [List.getElem_toArray, List.getElem_cons_zero, List.getElem_cons_succ]); (try rw [if_pos (by kernel_rfl)]); go_simp; (go_at_call 23; refine (toDate_any _ _ _ _).mono ?_; rintro e1 w5 ⟨rfl, hb5⟩); (try dsimp only); refine hK.out _ _ ?_ (fun hHeld => ?_); (focus ((try dsimp only); (first | ((try go_split_ands); (try dsimp only); refine ⟨?_, ?_, ?_, ?_, ?_, ?_, ?_, ?_, ?_, ?_, ?_⟩ <;> first | (exact cell_call (by assumption) (by assumption) (by assumption)) | (exact lt_call (by assumption) (by assumption)) | (exact below_call' (by assumption) (by assumption)) | (exact Below.drew (by assumption)) | (with_reducible assumption) | (simp; done) | (simp [*]; done) | ((repeat (first | with_reducible exact Below.refl _ _ | with_reducible refine below_alloc ?_ _ | with_reducible refine below_drewN ?_ _ | with_reducible refine Below.drew ?_ | ((with_reducible refine below_set ?_ ?_ _); rotate_left; (focus (first | (simp; done) | (simp; omega) | omega))) | with_reducible refine below_call ?_ (by assumption))); done) | omega | (simp; omega) | (simp [go_sem]; done) | (simp [go_sem, *]; done))))); clear hK K; (try simp only [Act.put, List.getElem_toArray, List.getElem_cons_zero, List.getElem_cons_succ, List.setIfInBounds_toArray, List.set_cons_zero, List.set_cons_succ]))
              refine wpAnyH_ready (rs := [7]) (by kernel_rfl) (by simp) ?_
              refine AllReadyH.cons rfl (fun K hK => ?_) (AllReadyH.nil)
              ((try simp only [List.getElem_toArray, List.getElem_cons_zero, List.getElem_cons_succ]); (try rw [if_pos (by kernel_rfl)]); go_simp; (go_at_call 24; refine (C2.out _ _ _ _ (Own2.months ((((O3.out).call (alb _ _)).call hb4).call hb5)) (Own2.rules ((((O3.out).call (alb _ _)).call hb4).call hb5)) (Own.ints (Own.call (O4.out) hb5) (Nat.le_refl _))).mono ?_; rintro e1 w6 ⟨L6, c6, rfl, ho6, hb6⟩; have HO6 := Lib.hid ho6; clear ho6); (try dsimp only); refine hK.out _ _ ?_ (fun hHeld => ?_); (focus ((try dsimp only); (first | ((try go_split_ands); (try dsimp only); refine ⟨?_, ?_, ?_, ?_, ?_, ?_, ?_, ?_, ?_, ?_, ?_⟩ <;> first | (exact cell_call (by assumption) (by assumption) (by assumption)) | (exact lt_call (by assumption) (by assumption)) | (exact below_call' (by assumption) (by assumption)) | (exact Below.drew (by assumption)) | (with_reducible assumption) | (simp; done) | (simp [*]; done) | ((repeat (first | with_reducible exact Below.refl _ _ | with_reducible refine below_alloc ?_ _ | with_reducible refine below_drewN ?_ _ | with_reducible refine Below.drew ?_ | ((with_reducible refine below_set ?_ ?_ _); rotate_left; (focus (first | (simp; done) | (simp; omega) | omega))) | with_reducible refine below_call ?_ (by assumption))); done) | omega | (simp; omega) | (simp [go_sem]; done) | (simp [go_sem, *]; done))))); clear hK K; (try simp only [Act.put, List.getElem_toArray, List.getElem_cons_zero, List.getElem_cons_succ, List.setIfInBounds_toArray, List.set_cons_zero, List.set_cons_succ]))
              (refine wpAnyH_take (i := 8) (v := ?_) rfl (by kernel_rfl) (by kernel_rfl) (by kernel_rfl) (fun _ _ _ h => h) (Or.inl ⟨by kernel_rfl, ?_⟩) (by assumption) ?_; rotate_left; (focus (intro w hSw; (try dsimp only at hSw); go_simp; (try with_reducible rfl))); (try simp only [Act.put, List.getElem_toArray, List.getElem_cons_zero, List.getElem_cons_succ, List.setIfInBounds_toArray, List.set_cons_zero, List.set_cons_succ]))
              (refine wpAnyH_take (i := 9) (v := ?_) rfl (by kernel_rfl) (by kernel_rfl) (by kernel_rfl) (fun _ _ _ h => h) (Or.inl ⟨by kernel_rfl, ?_⟩) (by assumption) ?_; rotate_left; (focus (intro w hSw; (try dsimp only at hSw); go_simp; (try with_reducible rfl))); (try simp only [Act.put, List.getElem_toArray, List.getElem_cons_zero, List.getElem_cons_succ, List.setIfInBounds_toArray, List.set_cons_zero, List.set_cons_succ]))
              (refine wpAnyH_take (i := 10) (v := ?_) rfl (by kernel_rfl) (by kernel_rfl) (by kernel_rfl) (fun _ _ _ h => h) (Or.inl ⟨by kernel_rfl, ?_⟩) (by assumption) ?_; rotate_left; (focus (intro w hSw; (try dsimp only at hSw); go_simp; (try with_reducible rfl))); (try simp only [Act.put, List.getElem_toArray, List.getElem_cons_zero, List.getElem_cons_succ, List.setIfInBounds_toArray, List.set_cons_zero, List.set_cons_succ]))
              have BW : Below W0.heap.size W0 w6 := by go_split_ands; assumption
              have WG : Work w6 w3.heap.size (.slice none 0 0) 0 0 0 0 0 0 := (((work_new w3 50 (.slice none 0 0) 0 0 0 0 0 0).call hb4).call hb5).call hb6
              have WG2 := Lib.hid WG
              have hgz : W0.heap.size ≤ w3.heap.size := by have hh := BZ1.out.size; exact hh
              obtain ⟨p0, p1, p2, p3, p4, p5, p6, pf⟩ := WG
              have f0 := pf 0
              have f1 := pf 1
              have f2 := pf 2
              have f3 := pf 3
              have f4 := pf 4
              have f5 := pf 5
              have f6 := pf 6
              clear pf
              refine wpAnyH_ready (rs := [12]) (by kernel_rfl) (by simp) ?_
              refine AllReadyH.cons rfl (fun K hK => ?_) (AllReadyH.nil)
              (try simp only [List.getElem_toArray, List.getElem_cons_zero, List.getElem_cons_succ])
              (try rw [if_pos (by kernel_rfl)])
              go_simp
              refine hK.out _ _ ?_ (fun hHeld => ?_)
              · go_split_ands
                refine ⟨?_, ?_, ?_, ?_, ?_, ?_, ?_, ?_, ?_, ?_, ?_⟩ <;> first | (refine Eq.trans (World.cell?_of_block (set7_heap _ ?_)) ?_ <;> first | assumption | (dsimp only; omega)) | exact below_set7 (by assumption) (by omega) | (simp; assumption)
              clear hK K
              (try simp only [Act.put, List.getElem_toArray, List.getElem_cons_zero, List.getElem_cons_succ, List.setIfInBounds_toArray, List.set_cons_zero, List.set_cons_succ])
              (refine wpAnyH_take (i := 13) (v := ?_) rfl (by kernel_rfl) (by kernel_rfl) (by kernel_rfl) (fun _ _ _ h => h) (Or.inl ⟨by kernel_rfl, ?_⟩) (by assumption) ?_; rotate_left; (focus (intro w hSw; (try dsimp only at hSw); go_simp; (try with_reducible rfl))); (try simp only [Act.put, List.getElem_toArray, List.getElem_cons_zero, List.getElem_cons_succ, List.setIfInBounds_toArray, List.set_cons_zero, List.set_cons_succ]))
              refine wpAnyH_done (by kernel_rfl) ?_ _
              go_wp2_with fail
              go_meet
              refine ⟨rfl, res_set WG2.out HO6.out ?_ hgz BW⟩
              refine Nat.lt_of_lt_of_le (show w3.heap.size < (w3.alloc (.cells #[.slice none 0 0, .int .i64 0, .int .i64 0, .int .i64 0, .int .i64 0, .int .i64 0, .int .i64 0] 50)).heap.size by simp) ?_
              exact Nat.le_trans (hb4.size) hb5.size
          · (try simp only [List.getElem_toArray, List.getElem_cons_zero, List.getElem_cons_succ])
            (try rw [if_pos (by kernel_rfl)])
            go_simp
            refine hK.out _ _ ?_ (fun hHeld => ?_)
            · go_split_ands
              refine ⟨?_, ?_, ?_, ?_, ?_, ?_, ?_, ?_, ?_, ?_, ?_⟩ <;> first | exact cell_call (alb _ _) (by assumption) (by assumption) | exact lt_call (alb _ _) (by assumption) | exact below_alloc (by assumption) _ | exact below_ad (by assumption) _
            clear hK K
            (try simp only [Act.put, List.getElem_toArray, List.getElem_cons_zero, List.getElem_cons_succ, List.setIfInBounds_toArray, List.set_cons_zero, List.set_cons_succ])
            refine wpAnyH_ready (rs := [1]) (by kernel_rfl) (by simp) ?_
            refine AllReadyH.cons rfl (fun K hK => ?_) (AllReadyH.nil)
            ((try simp only [List.getElem_toArray, List.getElem_cons_zero, List.getElem_cons_succ]); (try rw [if_pos (by kernel_rfl)]); go_simp; (go_at_call 9; refine (CT.out _ (by go_split_ands; assumption)).mono ?_; rintro e1 w3 ⟨g3, k3, rfl, ho3, hb3⟩; have O3 := Lib.hid ho3; clear ho3); (try dsimp only); refine hK.out _ _ ?_ (fun hHeld => ?_); (focus ((try dsimp only); (first | ((try go_split_ands); (try dsimp only); refine ⟨?_, ?_, ?_, ?_, ?_, ?_, ?_, ?_, ?_, ?_, ?_⟩ <;> first | (exact cell_call (by assumption) (by assumption) (by assumption)) | (exact lt_call (by assumption) (by assumption)) | (exact below_call' (by assumption) (by assumption)) | (exact Below.drew (by assumption)) | (with_reducible assumption) | (simp; done) | (simp [*]; done) | ((repeat (first | with_reducible exact Below.refl _ _ | with_reducible refine below_alloc ?_ _ | with_reducible refine below_drewN ?_ _ | with_reducible refine Below.drew ?_ | ((with_reducible refine below_set ?_ ?_ _); rotate_left; (focus (first | (simp; done) | (simp; omega) | omega))) | with_reducible refine below_call ?_ (by assumption))); done) | omega | (simp; omega) | (simp [go_sem]; done) | (simp [go_sem, *]; done))))); clear hK K; (try simp only [Act.put, List.getElem_toArray, List.getElem_cons_zero, List.getElem_cons_succ, List.setIfInBounds_toArray, List.set_cons_zero, List.set_cons_succ]))
            refine wpAnyH_ready (rs := [3]) (by kernel_rfl) (by simp) ?_
            refine AllReadyH.cons rfl (fun K hK => ?_) (AllReadyH.nil)
            ((try simp only [List.getElem_toArray, List.getElem_cons_zero, List.getElem_cons_succ]); (try rw [if_pos (by kernel_rfl)]); go_simp; (go_at_call 17; refine (IT.out _ (by go_split_ands; assumption)).mono ?_; rintro e1 w4 ⟨L4, rfl, ho4, hb4⟩; have O4 := Lib.hid ho4; clear ho4); (try dsimp only); refine hK.out _ _ ?_ (fun hHeld => ?_); (focus ((try dsimp only); (first | ((try go_split_ands); (try dsimp only); refine ⟨?_, ?_, ?_, ?_, ?_, ?_, ?_, ?_, ?_, ?_, ?_⟩ <;> first | (exact cell_call (by assumption) (by assumption) (by assumption)) | (exact lt_call (by assumption) (by assumption)) | (exact below_call' (by assumption) (by assumption)) | (exact Below.drew (by assumption)) | (with_reducible assumption) | (simp; done) | (simp [*]; done) | ((repeat (first | with_reducible exact Below.refl _ _ | with_reducible refine below_alloc ?_ _ | with_reducible refine below_drewN ?_ _ | with_reducible refine Below.drew ?_ | ((with_reducible refine below_set ?_ ?_ _); rotate_left; (focus (first | (simp; done) | (simp; omega) | omega))) | with_reducible refine below_call ?_ (by assumption))); done) | omega | (simp; omega) | (simp [go_sem]; done) | (simp [go_sem, *]; done))))); clear hK K; (try simp only [Act.put, List.getElem_toArray, List.getElem_cons_zero, List.getElem_cons_succ, List.setIfInBounds_toArray, List.set_cons_zero, List.set_cons_succ]))
            refine wpAnyH_ready (rs := [5]) (by kernel_rfl) (by simp) ?_
            refine AllReadyH.cons rfl (fun K hK => ?_) (AllReadyH.nil)
            ((try simp only [List.getElem_toArray, List.getElem_cons_zero, List.getElem_cons_succ]); (try rw [if_pos (by kernel_rfl)]); go_simp; (go_at_call 23; refine (toDate_any _ _ _ _).mono ?_; rintro e1 w5 ⟨rfl, hb5⟩); (try dsimp only); refine hK.out _ _ ?_ (fun hHeld => ?_); (focus ((try dsimp only); (first | ((try go_split_ands); (try dsimp only); refine ⟨?_, ?_, ?_, ?_, ?_, ?_, ?_, ?_, ?_, ?_, ?_⟩ <;> first | (exact cell_call (by assumption) (by assumption) (by assumption)) | (exact lt_call (by assumption) (by assumption)) | (exact below_call' (by assumption) (by assumption)) | (exact Below.drew (by assumption)) | (with_reducible assumption) | (simp; done) | (simp [*]; done) | ((repeat (first | with_reducible exact Below.refl _ _ | with_reducible refine below_alloc ?_ _ | with_reducible refine below_drewN ?_ _ | with_reducible refine Below.drew ?_ | ((with_reducible refine below_set ?_ ?_ _); rotate_left; (focus (first | (simp; done) | (simp; omega) | omega))) | with_reducible refine below_call ?_ (by assumption))); done) | omega | (simp; omega) | (simp [go_sem]; done) | (simp [go_sem, *]; done))))); clear hK K; (try simp only [Act.put, List.getElem_toArray, List.getElem_cons_zero, List.getElem_cons_succ, List.setIfInBounds_toArray, List.set_cons_zero, List.set_cons_succ]))
            refine wpAnyH_ready (rs := [7]) (by kernel_rfl) (by simp) ?_
            refine AllReadyH.cons rfl (fun K hK => ?_) (AllReadyH.nil)
            ((try simp only [List.getElem_toArray, List.getElem_cons_zero, List.getElem_cons_succ]); (try rw [if_pos (by kernel_rfl)]); go_simp; (go_at_call 24; refine (C2.out _ _ _ _ (Own2.months (((O3.out).call hb4).call hb5)) (Own2.rules (((O3.out).call hb4).call hb5)) (Own.ints (Own.call (O4.out) hb5) (Nat.le_refl _))).mono ?_; rintro e1 w6 ⟨L6, c6, rfl, ho6, hb6⟩; have HO6 := Lib.hid ho6; clear ho6); (try dsimp only); refine hK.out _ _ ?_ (fun hHeld => ?_); (focus ((try dsimp only); (first | ((try go_split_ands); (try dsimp only); refine ⟨?_, ?_, ?_, ?_, ?_, ?_, ?_, ?_, ?_, ?_, ?_⟩ <;> first | (exact cell_call (by assumption) (by assumption) (by assumption)) | (exact lt_call (by assumption) (by assumption)) | (exact below_call' (by assumption) (by assumption)) | (exact Below.drew (by assumption)) | (with_reducible assumption) | (simp; done) | (simp [*]; done) | ((repeat (first | with_reducible exact Below.refl _ _ | with_reducible refine below_alloc ?_ _ | with_reducible refine below_drewN ?_ _ | with_reducible refine Below.drew ?_ | ((with_reducible refine below_set ?_ ?_ _); rotate_left; (focus (first | (simp; done) | (simp; omega) | omega))) | with_reducible refine below_call ?_ (by assumption))); done) | omega | (simp; omega) | (simp [go_sem]; done) | (simp [go_sem, *]; done))))); clear hK K; (try simp only [Act.put, List.getElem_toArray, List.getElem_cons_zero, List.getElem_cons_succ, List.setIfInBounds_toArray, List.set_cons_zero, List.set_cons_succ]))
            (refine wpAnyH_take (i := 8) (v := ?_) rfl (by kernel_rfl) (by kernel_rfl) (by kernel_rfl) (fun _ _ _ h => h) (Or.inl ⟨by kernel_rfl, ?_⟩) (by assumption) ?_; rotate_left; (focus (intro w hSw; (try dsimp only at hSw); go_simp; (try with_reducible rfl))); (try simp only [Act.put, List.getElem_toArray, List.getElem_cons_zero, List.getElem_cons_succ, List.setIfInBounds_toArray, List.set_cons_zero, List.set_cons_succ]))
            (refine wpAnyH_take (i := 9) (v := ?_) rfl (by kernel_rfl) (by kernel_rfl) (by kernel_rfl) (fun _ _ _ h => h) (Or.inl ⟨by kernel_rfl, ?_⟩) (by assumption) ?_; rotate_left; (focus (intro w hSw; (try dsimp only at hSw); go_simp; (try with_reducible rfl))); (try simp only [Act.put, List.getElem_toArray, List.getElem_cons_zero, List.getElem_cons_succ, List.setIfInBounds_toArray, List.set_cons_zero, List.set_cons_succ]))
            (refine wpAnyH_take (i := 10) (v := ?_) rfl (by kernel_rfl) (by kernel_rfl) (by kernel_rfl) (fun _ _ _ h => h) (Or.inl ⟨by kernel_rfl, ?_⟩) (by assumption) ?_; rotate_left; (focus (intro w hSw; (try dsimp only at hSw); go_simp; (try with_reducible rfl))); (try simp only [Act.put, List.getElem_toArray, List.getElem_cons_zero, List.getElem_cons_succ, List.setIfInBounds_toArray, List.set_cons_zero, List.set_cons_succ]))
            have BW : Below W0.heap.size W0 w6 := by go_split_ands; assumption
            have WG : Work w6 W0.heap.size (.slice none 0 0) 0 0 0 0 0 0 := ((((work_new W0.drew 50 (.slice none 0 0) 0 0 0 0 0 0).call hb3).call hb4).call hb5).call hb6
            have WG2 := Lib.hid WG
            have hgz : W0.heap.size ≤ W0.heap.size := by exact Nat.le_refl _
            obtain ⟨p0, p1, p2, p3, p4, p5, p6, pf⟩ := WG
            have f0 := pf 0
            have f1 := pf 1
            have f2 := pf 2
            have f3 := pf 3
            have f4 := pf 4
            have f5 := pf 5
            have f6 := pf 6
            clear pf
            refine wpAnyH_ready (rs := [12]) (by kernel_rfl) (by simp) ?_
            refine AllReadyH.cons rfl (fun K hK => ?_) (AllReadyH.nil)
            (try simp only [List.getElem_toArray, List.getElem_cons_zero, List.getElem_cons_succ])
            (try rw [if_pos (by kernel_rfl)])
            go_simp
            refine hK.out _ _ ?_ (fun hHeld => ?_)
            · go_split_ands
              refine ⟨?_, ?_, ?_, ?_, ?_, ?_, ?_, ?_, ?_, ?_, ?_⟩ <;> first | (refine Eq.trans (World.cell?_of_block (set7_heap _ ?_)) ?_ <;> first | assumption | (dsimp only; omega)) | exact below_set7 (by assumption) (by omega) | (simp; assumption)
            clear hK K
            (try simp only [Act.put, List.getElem_toArray, List.getElem_cons_zero, List.getElem_cons_succ, List.setIfInBounds_toArray, List.set_cons_zero, List.set_cons_succ])
            (refine wpAnyH_take (i := 13) (v := ?_) rfl (by kernel_rfl) (by kernel_rfl) (by kernel_rfl) (fun _ _ _ h => h) (Or.inl ⟨by kernel_rfl, ?_⟩) (by assumption) ?_; rotate_left; (focus (intro w hSw; (try dsimp only at hSw); go_simp; (try with_reducible rfl))); (try simp only [Act.put, List.getElem_toArray, List.getElem_cons_zero, List.getElem_cons_succ, List.setIfInBounds_toArray, List.set_cons_zero, List.set_cons_succ]))
            refine wpAnyH_done (by kernel_rfl) ?_ _
            go_wp2_with fail
            go_meet
            refine ⟨rfl, res_set WG2.out HO6.out ?_ hgz BW⟩
            refine Nat.lt_of_lt_of_le (show W0.heap.size < (W0.drew.alloc (.cells #[.slice none 0 0, .int .i64 0, .int .i64 0, .int .i64 0, .int .i64 0, .int .i64 0, .int .i64 0] 50)).heap.size by simp) ?_
            exact Nat.le_trans (Nat.le_trans (hb3.size) hb4.size) hb5.size
        case rest =>
          obtain ⟨rfl, RS⟩ := hcut
          obtain ⟨gh, S9, c9, rfl, QH', BN⟩ := RS
          have QH := Lib.hid QH'
          have LD2 := Lib.hid (LD1.out.call BN)
          have QM1 := Lib.hid (QM.out.call BN)
          have QN1 := Lib.hid (QN.out.call BN)
          clear QH' BN LD1 QM QN
          obtain ⟨a0, a1, a2, a3, a4, a5, a6, -⟩ := QH.out.wk
          obtain ⟨b0, b1, b2, b3, b4, b5, b6, -⟩ := QM1.out.wk
          go_wp2_with fail
          go_at_call 25
          refine (eqPerpetual_same _ _ _ _ _ _ wc.heap.size wc.heap.size G r1 r2 r3 r4 r5 r6 _ (OwnIn.ints QH.out.ow QH.out.hh) (OwnIn.ints QM1.out.ow QM1.out.hh) (Nat.le_refl _) (Nat.le_refl _) (by omega) (by omega)).mono ?_
          rintro e1 U2 ⟨rfl, hb⟩
          have LD3 := Lib.hid (LD2.out.call hb)
          have QN2 := Lib.hid (QN1.out.call hb)
          clear hb LD2 QM1 QN1 QH
          clear a0 a1 a2 a3 a4 a5 a6 b0 b1 b2 b3 b4 b5 b6
          obtain ⟨a0, a1, a2, a3, a4, a5, a6, -⟩ := QN2.out.wk
          go_wp2_with fail
          go_at_call 27
          refine (heldPerpetual_any _ _ _ U2.heap.size 1 r1 r2 r3 r4 r5 r6 _ (OwnIn.ints QN2.out.ow QN2.out.hh) (Nat.le_refl _) hmm (by omega) (by omega)).mono ?_
          rintro e1 U3 ⟨rfl, hb⟩
          have LD4 := Lib.hid (LD3.out.call hb)
          go_wp2
          go_ret
          exact ⟨rfl, LD4.out.bl⟩
set_option maxRecDepth 100000 in
theorem lifted (os : Os) (started : os.Started) (H : Type) (enc : TypeId × Value → H) :
    ReturnsInHanded {} Try.checked os 5 .any (Rows.fnExactSetPerpetualSpec.pre6 enc Try.prog Try.f5 Rows.fnExactSetPerpetualRow.domain false) (Rows.fnExactSetPerpetualSpec.post enc Try.prog Try.f5 false true false false) := by
  refine returnsInHanded_of_change (C := Try.checked) own started (by kernel_rfl) Try.func5
    (ChangeSpec.witness6 (enc := enc) (C := Try.checked) false ⟨#[], #[.agg #[.string ⟨#[]⟩, .slice none 0 0, .slice none 0 0, .int .i64 0], .slice none 0 0, .agg #[.int .i64 0, .int .i64 0, .int .i64 0], .int .i64 0], []⟩ 8 (by kernel_rfl) (by kernel_rfl) (by kernel_rfl) (by kernel_rfl)) ?_
  intro W base args ds gs before hval0 hW hcnd _
  have hval : ∀ (j : Nat) t v, Try.f5.params[j]? = some t → args[j]? = some v → Value.okWide Try.prog W .any base t v := hval0
  have hW' := hW
  obtain ⟨p, q, hA0, hV, rfl, hfz, hnd⟩ := hW
  have hA : DataW.TrodAll enc Try.prog W 0 (fun _ => true) true Try.f5.params.toList args.toList ds p := hA0
  rw [Try.params5] at hA hval
  obtain ⟨v0, vs0, d0, ds0, p0, q0, hargs, rfl, rfl, h0, r0⟩ := trodAll_cons hA
  obtain ⟨v1, vs1, d1, ds1, p1, q1, rfl, rfl, rfl, h1, r1⟩ := trodAll_cons r0
  obtain ⟨v2, vs2, d2, ds2, p2, q2, rfl, rfl, rfl, h2, r2⟩ := trodAll_cons r1
  obtain ⟨v3, vs3, d3, ds3, p3, q3, rfl, rfl, rfl, h3, r3⟩ := trodAll_cons r2
  obtain ⟨rfl, rfl, rfl⟩ := trodAll_nil r3
  obtain rfl : args = #[v0, v1, v2, v3] := by cases args; simp_all
  obtain ⟨rfl, rfl⟩ := trodVars_none hV
  have k0 := h0
  have lt0 : ∀ x ∈ p0, x.block < W.heap.size := by obtain ⟨m, hm⟩ := k0; exact DataW.trod_lt m _ _ _ hm
  have k1 := h1
  have lt1 : ∀ x ∈ p1, x.block < W.heap.size := by obtain ⟨m, hm⟩ := k1; exact DataW.trod_lt m _ _ _ hm
  have k2 := h2
  have lt2 : ∀ x ∈ p2, x.block < W.heap.size := by obtain ⟨m, hm⟩ := k2; exact DataW.trod_lt m _ _ _ hm
  have k3 := h3
  have lt3 : ∀ x ∈ p3, x.block < W.heap.size := by obtain ⟨m, hm⟩ := k3; exact DataW.trod_lt m _ _ _ hm
  obtain ⟨nm0, Ac0, Ar0, nc0, nr0, cc0, cr0, mc0, rc0, wc0, rfl, R0⟩ := open_Calendar (hval 0 25 v0 rfl rfl) h0
  obtain ⟨A1, l1, c1, z1, rfl, R1⟩ := open_Ints (hval 1 27 v1 rfl rfl) h1
  obtain ⟨n2, m2, z2, rfl, wn2, wm2, wz2⟩ := open_Date (hval 2 48 v2 rfl rfl) h2
  obtain ⟨a3, rfl, _, _, wa3⟩ := open_int Try.underlying2 (hval 3 2 v3 rfl rfl) h3
  clear hA0 hval0
  refine (walk nm0 Ac0 Ar0 nc0 nr0 cc0 cr0 mc0 rc0 wc0 A1 l1 c1 z1 n2 m2 z2 a3 W R0 R1 wn2 wm2 wz2 wa3).mono fun e W' ⟨he, bel⟩ => ?_
  subst he
  exact ⟨_, rfl, _, _, _, [], _, [], hW', trodAll_mk1 (shut_bool Try.underlying4 _), (trodAll_cons_mk (Below.trod laidOut (by kernel_rfl) (of_decide_eq_true (by kernel_rfl)) k0 bel lt0) (trodAll_cons_mk (Below.trod laidOut (by kernel_rfl) (of_decide_eq_true (by kernel_rfl)) k1 bel lt1) (trodAll_cons_mk (Below.trod laidOut (by kernel_rfl) (of_decide_eq_true (by kernel_rfl)) k2 bel lt2) (trodAll_cons_mk (Below.trod laidOut (by kernel_rfl) (of_decide_eq_true (by kernel_rfl)) k3 bel lt3) trodAll_mk0)))), rfl, bel.frame _, fun h => by cases h⟩
theorem over : Rows.fnExactSetPerpetualRow.holds Try.pinned (OpenSpec.ofChange Rows.fnExactSetPerpetualSpec) :=
  OpenClaim.holds_of_wide 5 Try.f5 rfl rfl rfl rfl rfl rfl rfl ⟨rfl, rfl, rfl, rfl, rfl⟩ rfl rfl rfl rfl rfl (by kernel_rfl) Try.func5 (by kernel_rfl)
    (of_decide_eq_true (by kernel_rfl)) (by unfold Func.isWrapper; first | (rw [if_pos (by decide +kernel)]; kernel_rfl) | (rw [if_neg (by decide +kernel)]; exact ⟨rfl, rfl⟩))
    (fun os started H enc _ => lifted os started H enc)
theorem proved : Rows.FnExactSetPerpetualSaid := over
#print axioms proved
end Go.Proofs.Ytbmiamfgdjiodaa.fnExactSetPerpetual
