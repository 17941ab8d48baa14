/- The law FnExactReadCam returns true: the program's ReadCam is the reference's, and its result is a new slice. No conditions but that the listed variables read as listed. -/
import Derived.Test.YtnamfiggpobfbaaDoorReadCam
import Derived.Test.YtnamfiggpobfbaaDoorHandedAnd
import Derived.Test.YtnamfiggpobfbaaDoorLawKit
import Derived.Test.YtnamfiggpobfbaaDoorCards
import Derived.Test.YtnamfiggpobfbaaDoorTie
import Derived.ProofKit
import Derived.ChangeMaps5
import Derived.Lay
import Derived.LaidLaws
import Derived.OpenShut
import Derived.SevenTiedAt
import Derived.ChangeOld
namespace Go.Proofs.YtnamfiggpobfbaaDoor.fnExactReadCam
open Go.ChangeShapes Go.WideShapes Go.ChangeAt Go.RowKit Go.ChangeMaps
set_option linter.unusedVariables false
set_option linter.unusedSimpArgs false
theorem own : ownKnob Tryd.prog.godebug = none := by kernel_rfl
theorem laidOut : laidOutB Tryd.prog = true := by kernel_rfl
theorem star : "*" ++ "errors.errorString" = "*errors.errorString" := by decide
theorem row_only (u : TypeId) (h : Tryd.prog.typeName? 3 u = some "*errors.errorString") : u = 87 :=
  typeName_ptr_named (nm := "errors.errorString") (by rw [star]; kernel_rfl) (by kernel_rfl) (by decide) u (by rw [star]; exact h)
theorem lays {W : World} (h : laidMetH Tryd.prog Rows.fnExactReadCamRow.laid W) (hs : W.ShapedOpen Tryd.prog) : ∃ m, Lays W m := by
  rw [MakeChecks.laidMetH_plain _ _ _ (by kernel_rfl)] at h
  have h2 := laidMet.tail (laidMet.tail h)
  have h4 := laidMet.tail (laidMet.tail h2)
  have h5 := laidMet.tail h4
  have e : (Rows.laid_internal_strconv_uint64pow10 : DataW Unit) = Lib.tabData .u64 Lib.pow10Tab := by kernel_rfl
  rw [e] at h2
  obtain ⟨m, hm⟩ := maxlen_of hs
  refine ⟨m, lays_of ?_ ?_ ?_ hm⟩
  · exact Lib.tabIs_of_head (g := (Tryd.prog.globalNamed "internal/strconv.uint64pow10").getD 0) (by kernel_rfl) (by kernel_rfl) Tryd.underlying91 Tryd.underlying60 (by kernel_rfl) (by kernel_rfl) h2
  · obtain ⟨a0, s0, hv0, -, -, -⟩ := laid_sentinel (tp := 87) (te := 89) (ts := 9) (ti := 41) (g := (Tryd.prog.globalNamed "strconv.ErrSyntax").getD 0) h5 (by kernel_rfl) (by kernel_rfl) Tryd.underlying41 row_only Tryd.underlying87 Tryd.underlying89 rfl rfl Tryd.underlying9 (by kernel_rfl) (by kernel_rfl)
    exact ⟨_, _, hv0⟩
  · obtain ⟨a0, s0, hv0, -, -, -⟩ := laid_sentinel (tp := 87) (te := 89) (ts := 9) (ti := 41) (g := (Tryd.prog.globalNamed "strconv.ErrRange").getD 0) h4 (by kernel_rfl) (by kernel_rfl) Tryd.underlying41 row_only Tryd.underlying87 Tryd.underlying89 rfl rfl Tryd.underlying9 (by kernel_rfl) (by kernel_rfl)
    exact ⟨_, _, hv0⟩
set_option maxHeartbeats 8000000 in
theorem walk (s : ByteArray) (w : World) (hms : s.size ≤ maxLen) (LY : ∃ m, Lays w m) :
    Calls Tryd.prog 3 #[.string s] w fun e w' => e = .returned (.bool true) ∧ Below w.heap.size w w' := by
  by_cases hle : 1048576 < s.size
  · have hle2 : (1048576 : Int) < (s.size : Int) := by omega
    clear LY
    go_enter Tryd.func3, Tryd.ntmps3
    go_wp2
    go_ret
    exact ⟨rfl, Below.refl _ _⟩
  · have hs : s.size ≤ 1048576 := by omega
    have hle2 : ¬ ((1048576 : Int) < (s.size : Int)) := by omega
    obtain ⟨mx, LW⟩ := LY
    have c1 := fun (w : World) => specReadCam_any s w hs
    have c2 := fun (w1 : World) (hb : Below w.heap.size w w1) => ReadCam_any s mx w1 hs (LW.keep hb)
    unfold ReadCamR at c1 c2
    have hlen : (if vCam (rdZ 32 s.data.toList) then rdZ 32 s.data.toList else []).length ≤ 260 := by
      cases hv : vCam (rdZ 32 s.data.toList)
      · simp
      · have := (vCam_yes hv).2.2; simpa using this
    generalize (if vCam (rdZ 32 s.data.toList) then rdZ 32 s.data.toList else []) = G at *
    generalize vCam (rdZ 32 s.data.toList) = ok at *
    have C1 := Lib.hid c1
    have C2 := Lib.hid c2
    have HG := Lib.hid hlen
    have k1 : (ok != ok) = false := by simp
    have k2 : (ok == ok) = true := by simp
    clear c1 c2 hlen LW
    go_enter Tryd.func3, Tryd.ntmps3
    go_wp2_with fail
    refine (C1.out _).mono ?_
    rintro e w1 ⟨L1, m1, q1, rfl, ho1, b1⟩
    have hm1 : m1 ≤ 260 := by have := ho1.len; have := HG.out; omega
    have O1x1 := Lib.hid (OwnIn.of ho1)
    have z1 : w.heap.size ≤ w1.heap.size := b1.size
    have B1 := b1
    clear ho1 b1
    go_wp2_with fail
    refine (C2.out _ B1).mono ?_
    rintro e w2 ⟨L2, m2, q2, rfl, ho2, b2⟩
    have hm2 : m2 ≤ 260 := by have := ho2.len; have := HG.out; omega
    have O2x2 := Lib.hid (OwnIn.of ho2)
    have z2 : w1.heap.size ≤ w2.heap.size := b2.size
    have O1x2 := Lib.hid (OwnIn.call O1x1.out b2 (by omega))
    have B2 : Below w.heap.size w w2 := B1.trans (b2.mono (by omega))
    clear ho2 b2 B1 O1x1
    go_wp2_with fail
    refine (eqInt64S_same' _ (OwnIn.ints O2x2.out (by omega) (B := w2.heap.size)) (OwnIn.ints O1x2.out (by omega) (B := w2.heap.size)) (by omega) (by omega)).mono ?_
    rintro e w3 ⟨rfl, hq3⟩
    have b3 : Below w2.heap.size w2 w3 := by obtain ⟨mq, rfl⟩ := hq3; exact below_drewN (Below.refl _ _) _
    have z3 : w2.heap.size ≤ w3.heap.size := b3.size
    clear hq3
    have O1x3 := Lib.hid (OwnIn.call O1x2.out b3 (by omega))
    have O2x3 := Lib.hid (OwnIn.call O2x2.out b3 (by omega))
    have B3 : Below w.heap.size w w3 := B2.trans (b3.mono (by omega))
    clear b3 B2 O1x2 O2x2
    go_wp2_with fail
    refine (markInt64S_any _ _ _ _ _ 1 _ O2x3.out.1 (by omega) (by omega) (by omega)).mono ?_
    rintro e w4 ⟨rfl, ho4, hg4⟩
    have B4 : Below w.heap.size w w4 := OwnIn.below O2x3.out B3 hg4 (by omega)
    have z4 : w3.heap.size ≤ w4.heap.size := hg4.size
    have O1x4 := Lib.hid (OwnIn.grown O1x3.out hg4 (fun g hg => .inr (by have := O2x3.out.blk g hg; omega)) (by omega))
    have O2x4 := Lib.hid (OwnIn.self O2x3.out ho4)
    clear ho4 hg4 B3 O1x3 O2x3
    go_wp2_with fail
    refine (heldInt64S_any _ _ _ w4.heap.size 1 _ (OwnIn.ints O2x4.out (by omega)) (by omega) (by omega) (by omega)).mono ?_
    rintro e w' ⟨rfl, rfl⟩
    go_wp2_with fail
    refine (C2.out _ B4).mono ?_
    rintro e w5 ⟨L5, m5, q5, rfl, ho5, b5⟩
    have hm5 : m5 ≤ 260 := by have := ho5.len; have := HG.out; omega
    have O5x5 := Lib.hid (OwnIn.of ho5)
    have z5 : w4.heap.size ≤ w5.heap.size := b5.size
    have O1x5 := Lib.hid (OwnIn.call O1x4.out b5 (by omega))
    have O2x5 := Lib.hid (OwnIn.call O2x4.out b5 (by omega))
    have B5 : Below w.heap.size w w5 := B4.trans (b5.mono (by omega))
    clear ho5 b5 B4 O1x4 O2x4
    go_wp2_with fail
    refine (eqInt64S_same' _ (OwnIn.ints O5x5.out (by omega) (B := w5.heap.size)) (OwnIn.ints O1x5.out (by omega) (B := w5.heap.size)) (by omega) (by omega)).mono ?_
    rintro e w6 ⟨rfl, hq6⟩
    have b6 : Below w5.heap.size w5 w6 := by obtain ⟨mq, rfl⟩ := hq6; exact below_drewN (Below.refl _ _) _
    have z6 : w5.heap.size ≤ w6.heap.size := b6.size
    clear hq6
    have O2x6 := Lib.hid (OwnIn.call O2x5.out b6 (by omega))
    have B6 : Below w.heap.size w w6 := B5.trans (b6.mono (by omega))
    clear b6 B5 O1x5 O2x5 O5x5
    go_wp2_with fail
    refine (heldInt64S_any _ _ _ w6.heap.size 1 _ (OwnIn.ints O2x6.out (by omega)) (by omega) (by omega) (by omega)).mono ?_
    rintro e w' ⟨rfl, rfl⟩
    go_wp2
    go_ret
    exact ⟨rfl, B6⟩
theorem door_met (os : Os) (args : Array Value) : laidMetH Tryd.prog Rows.fnExactReadCamRow.laid ((World.laidAll Tryd.prog os Rows.fnExactReadCamRow.laid).forCall (fun _ _ => 0) ⟨#[], args, []⟩).memory :=
  by rw [MakeChecks.laidMetH_plain _ _ _ (by kernel_rfl)]; exact laidMet_laidAll args (by kernel_rfl) (by kernel_rfl)
set_option maxRecDepth 100000 in
theorem lifted (os : Os) (started : os.Started) (H : Type) (enc : TypeId × Value → H) :
    ReturnsInHanded {} Tryd.checked os 3 .any (fun w args => (Rows.fnExactReadCamSpec.pre enc Tryd.prog Tryd.f3 [] false w args ∧ laidMetH Tryd.prog Rows.fnExactReadCamRow.laid w) ∧ sizedMet enc Tryd.prog Tryd.f3 (OpenSpec.ofChange Rows.fnExactReadCamSpec) false w args)
      (Rows.fnExactReadCamSpec.post enc Tryd.prog Tryd.f3 false true false false) := by
  refine handed_and_shaped (C := Tryd.checked) (X := fun w _ => laidMetH Tryd.prog Rows.fnExactReadCamRow.laid w) (fun _ _ _ hh h => h.of_heap hh) own started (by kernel_rfl) Tryd.func3
    (ChangeSpec.witness_shaped (enc := enc) (C := Tryd.checked) (os := os) (X := fun w _ => laidMetH Tryd.prog Rows.fnExactReadCamRow.laid w) false (World.laidAll Tryd.prog os Rows.fnExactReadCamRow.laid) #[.string ByteArray.empty] 8 (World.laidAll_os _ _ _) (World.shaped_of_ZipB (by kernel_rfl) (by kernel_rfl)) (by kernel_rfl) (by kernel_rfl) (by kernel_rfl) (door_met os _)) ?_
  intro W base args ds gs before hval0 hW _ _ hL hsh _
  have hval : ∀ (j : Nat) t v, Tryd.f3.params[j]? = some t → args[j]? = some v → Value.okWide Tryd.prog W .any base t v := hval0
  have hW' := hW
  obtain ⟨p, q, hA0, hV, rfl, hfz, hnd⟩ := hW
  have hA : DataW.TrodAll enc Tryd.prog W 0 (fun _ => true) true Tryd.f3.params.toList args.toList ds p := hA0
  rw [Tryd.params3] at hA hval
  obtain ⟨v0, vs0, d0, ds0, p0, q0, hargs, rfl, rfl, h0, r0⟩ := trodAll_cons hA
  obtain ⟨rfl, rfl, rfl⟩ := trodAll_nil r0
  obtain rfl : args = #[v0] := by cases args; simp_all
  obtain ⟨rfl, rfl⟩ := trodVars_none hV
  have k0 := h0
  have lt0 : ∀ x ∈ p0, x.block < W.heap.size := by obtain ⟨m, hm⟩ := k0; exact DataW.trod_lt m _ _ _ hm
  obtain ⟨a0, rfl, _, _, wa0⟩ := open_string Tryd.underlying9 (hval 0 9 v0 rfl rfl) h0
  clear hA0 hval0
  refine (walk a0 W wa0 (lays hL hsh)).mono fun e W' ⟨he, bel⟩ => ?_
  subst he
  exact ⟨_, rfl, _, _, _, [], _, [], hW', trodAll_mk1 (shut_bool Tryd.underlying4 _), (trodAll_cons_mk (Below.trod laidOut (by kernel_rfl) (of_decide_eq_true (by kernel_rfl)) k0 bel lt0) trodAll_mk0), rfl, bel.frame _, fun h => by cases h⟩
theorem over : Rows.fnExactReadCamRow.holds Tryd.pinned (OpenSpec.ofChange Rows.fnExactReadCamSpec) :=
  OpenClaim.holds_of_wide 3 Tryd.f3 rfl rfl rfl rfl rfl rfl rfl ⟨rfl, rfl, rfl, rfl, rfl⟩ rfl rfl rfl rfl rfl (by kernel_rfl) Tryd.func3 (by kernel_rfl)
    (of_decide_eq_true (by kernel_rfl)) (by unfold Func.isWrapper; first | (rw [if_pos (by decide +kernel)]; kernel_rfl) | (rw [if_neg (by decide +kernel)]; exact ⟨rfl, rfl⟩))
    (fun os started H enc _ => lifted os started H enc)
theorem proved : Rows.FnExactReadCamCardSaid :=
  Claim7.holds_tied_plain_at .later [] [.data, .data, .data, .data, .sentinel, .sentinel, .pinned] true Rows.fnExactReadCamCard.stood.harness true
    over (fun _ h => by cases h) (by kernel_rfl) (fun _ h => by cases h) fnExactReadCam_row_tie rfl ⟨rfl, rfl⟩ (by kernel_rfl) rfl
    (fun f fn hf hfn => by
      obtain rfl : f = 3 := Option.some.inj ((show Tryd.prog.funcNamed Rows.fnExactReadCamRow.func = some 3 by kernel_rfl).symm.trans hf) |>.symm
      obtain rfl : fn = Tryd.f3 := (Option.some.inj (Tryd.func3.symm.trans hfn)).symm
      exact ⟨by kernel_rfl, fun j t ht => by
        rw [Tryd.params3] at ht
        have hm : t ∈ [9] := by simpa using Array.mem_of_getElem? ht
        have hall : ([9].all fun u => !Tryd.prog.wantsStandIn u) = true := by kernel_rfl
        exact (show Tryd.prog.wantsStandIn t = false by simpa using List.all_eq_true.1 hall t hm)⟩)
    (by kernel_rfl)
#print axioms proved
end Go.Proofs.YtnamfiggpobfbaaDoor.fnExactReadCam
