/- The law FnTurnedWheels returns true for all bytes: a turned wheel strikes the same and has the same cycle, and what is written of a wheel is read. No conditions but that the listed variables read as listed. -/
import Derived.Test.YtajcbppndkkbpaaGreatDoorTurnPlain
import Derived.Test.YtajcbppndkkbpaaGreatDoorDrawTurn
import Derived.Test.YtajcbppndkkbpaaGreatDoorDrawSame
import Derived.Test.YtajcbppndkkbpaaGreatDoorRoll
import Derived.Test.YtajcbppndkkbpaaGreatDoorSliceEq
import Derived.Test.YtajcbppndkkbpaaGreatDoorHandedAnd
import Derived.Test.YtajcbppndkkbpaaGreatDoorCards
import Derived.Test.YtajcbppndkkbpaaGreatDoorTie
import Derived.ProofKit
import Derived.ChangeMaps5
import Derived.Lay
import Derived.LaidLaws
import Derived.OpenShut
import Derived.SevenTiedAt
import Derived.ChangeOld
import Derived.BigQuiet
import Derived.Deep.RegionHeld3
namespace Go.Proofs.YtajcbppndkkbpaaGreatDoor.fnTurnedWheels
open Go.ChangeShapes Go.WideShapes Go.ChangeAt Go.RowKit Go.ChangeMaps
set_option linter.unusedVariables false
set_option linter.unusedSimpArgs false
set_option maxRecDepth 8000
theorem own : ownKnob Tryz.prog.godebug = none := by kernel_rfl
theorem laidOut : laidOutB Tryz.prog = true := by kernel_rfl
theorem star : "*" ++ "errors.errorString" = "*errors.errorString" := by decide
theorem row_only (u : TypeId) (h : Tryz.prog.typeName? 3 u = some "*errors.errorString") : u = 130 :=
  typeName_ptr_named (nm := "errors.errorString") (by rw [star]; kernel_rfl) (by kernel_rfl) (by decide) u (by rw [star]; exact h)
theorem lays {W : World} (h : laidMetH Tryz.prog Rows.fnTurnedWheelsRow.laid W) (hs : W.ShapedOpen Tryz.prog) : ∃ m, Lays W m := by
  rw [MakeChecks.laidMetH_plain _ _ _ (by kernel_rfl)] at h
  have h2 := laidMet.tail (laidMet.tail h)
  have h4 := laidMet.tail (laidMet.tail h2)
  have h5 := laidMet.tail h4
  have e : (Rows.laid_internal_strconv_uint64pow10 : DataW Unit) = Lib.tabData .u64 Lib.pow10Tab := by kernel_rfl
  rw [e] at h2
  obtain ⟨m, hm⟩ := maxlen_of hs
  refine ⟨m, lays_of ?_ ?_ ?_ hm⟩
  · exact Lib.tabIs_of_head (g := (Tryz.prog.globalNamed "internal/strconv.uint64pow10").getD 0) (by kernel_rfl) (by kernel_rfl) Tryz.underlying112 Tryz.underlying75 (by kernel_rfl) (by kernel_rfl) h2
  · obtain ⟨a0, s0, hv0, -, -, -⟩ := laid_sentinel (tp := 130) (te := 132) (ts := 9) (ti := 67) (g := (Tryz.prog.globalNamed "strconv.ErrSyntax").getD 0) h5 (by kernel_rfl) (by kernel_rfl) Tryz.underlying67 row_only Tryz.underlying130 Tryz.underlying132 rfl rfl Tryz.underlying9 (by kernel_rfl) (by kernel_rfl)
    exact ⟨_, _, hv0⟩
  · obtain ⟨a0, s0, hv0, -, -, -⟩ := laid_sentinel (tp := 130) (te := 132) (ts := 9) (ti := 67) (g := (Tryz.prog.globalNamed "strconv.ErrRange").getD 0) h4 (by kernel_rfl) (by kernel_rfl) Tryz.underlying67 row_only Tryz.underlying130 Tryz.underlying132 rfl rfl Tryz.underlying9 (by kernel_rfl) (by kernel_rfl)
    exact ⟨_, _, hv0⟩
theorem f6self_b (A A' : Option Addr) (n n' c c' B B' : Nat) (zs : List Int) (w : World) (h : Ints w B A n zs) (h' : Ints w B' A' n' zs) (hn : n ≤ 9223372036854775807) (hn' : n' ≤ 9223372036854775807) :
    Calls Tryz.prog 8 #[.slice A n c, .slice A' n' c'] w fun e w' => e = .returned (.bool true) ∧ Below w.heap.size w w' :=
  (f6same_any A A' n n' c c' B B' zs zs w h h' hn hn').mono fun e w' ⟨he, k, hb⟩ => ⟨by rw [he]; simp, by rw [hb]; exact below_drewN (Below.refl _ _) k⟩
theorem alb0 (w : World) (o : Obj) : Below w.heap.size w (w.alloc o) := (Below.refl _ _).alloc (Nat.le_refl _) _
/-- a box q with a slice whose numbers are zs -/
def Bx (w : World) (q : Nat) (L : Option Addr) (n c : Nat) (zs : List Int) : Prop := w.cell? ⟨q, 0, none⟩ = some (.slice L n c) ∧ q < w.heap.size ∧ Ints w w.heap.size L n zs
theorem Bx.call {w w' : World} {q n c : Nat} {L : Option Addr} {zs : List Int} (h : Bx w q L n c zs) (hb : Below w.heap.size w w') : Bx w' q L n c zs :=
  ⟨(hb.cell h.2.1).trans h.1, Nat.lt_of_lt_of_le h.2.1 hb.size, (h.2.2.below hb).more hb.size⟩
theorem bx_new {w : World} {n : Nat} {L : Option Addr} {zs : List Int} (T : TypeId) (c : Nat) (h : Ints w w.heap.size L n zs) : Bx (w.alloc (.cells #[.slice L n c] T)) w.heap.size L n c zs :=
  ⟨by simp, by simp, (h.below (alb0 _ _)).more (alb0 _ _).size⟩
/-- what stays of the start: the bytes, the listed variables, and what lies below the start -/
def By (w w' : World) (A : Option Addr) (n : Nat) (mx : Int) : Prop := Byts w' w'.heap.size A n ∧ Lays w' mx ∧ Below w.heap.size w w'
theorem By.call {w w1 w2 : World} {A : Option Addr} {n : Nat} {mx : Int} (h : By w w1 A n mx) (hb : Below w1.heap.size w1 w2) : By w w2 A n mx :=
  ⟨byts_more (h.1.below hb) hb.size, h.2.1.keep hb, h.2.2.trans (hb.mono h.2.2.size)⟩
theorem rt_cases (zs : List Int) (m : Nat) (x : Int) (hm : m ≤ 100) : ∃ (n' : Nat) (ys : List Int) (cd : Int), rTurn zs m x = (n', ys, cd) ∧ n' ≤ 100 ∧ (((cd == 0) = false) ∨ (∃ k : Nat, vWheel zs = true ∧ x = (k : Int) ∧ k < m ∧ n' = m ∧ ys = zs.drop k ++ zs.take k ∧ cd = 0)) := by
  cases hv : vWheel zs
  · exact ⟨_, _, _, rTurn_bad hv, by omega, .inl rfl⟩
  · cases hi : inB x 0 ((m : Int) - 1)
    · exact ⟨_, _, _, rTurn_far hv hi, by omega, .inl rfl⟩
    · have h1 := inB_yes hi
      obtain ⟨k, rfl⟩ := Int.eq_ofNat_of_zero_le h1.1
      exact ⟨_, _, _, rTurn_ok hv hi, hm, .inr ⟨k, rfl, rfl, by omega, rfl, rfl, rfl⟩⟩
theorem read_text (zs : List Int) (mx : Int) (w : World) (hs : (⟨(wtx zs).toArray⟩ : ByteArray).size ≤ 1048576) (LY : Lays w mx) :
    Calls Tryz.prog 10 #[.string ⟨(wtx zs).toArray⟩] w fun e w' => ∃ A n c, e = .returned (.tuple #[.agg #[.slice A n c], .bool (vWheel zs)]) ∧ Own w' w.heap.size A n c (if vWheel zs then zs else []) ∧ Below w.heap.size w w' :=
  (ReadCountWheel_any ⟨(wtx zs).toArray⟩ mx w hs LY).mono fun e w' ⟨A, n, c, he, ho, hb⟩ => by
    have e1 : (⟨(wtx zs).toArray⟩ : ByteArray).data.toList = wtx zs := by simp
    rw [e1, read_ok] at he ho
    refine ⟨A, n, c, he, ?_, hb⟩
    cases hv : vWheel zs
    · rw [hv] at ho; exact ho
    · rw [hv, read_back hv] at ho; exact ho
theorem wtx_small {zs : List Int} {m : Nat} (h : m ≤ 100) (hl : zs.length = m) : (⟨(wtx zs).toArray⟩ : ByteArray).size ≤ 1048576 := by
  cases hv : vWheel zs
  · rw [wtx_no hv]; simp [ByteArray.size]
  · rw [wtx_yes hv]
    have := txK_len [45] zs (by simp) (fun j hj => by have := (vWheel_yes hv).1 j hj; omega) zs.length (Nat.le_refl _)
    simp [ByteArray.size]
    omega
set_option maxHeartbeats 8000000 in
theorem walk (A : Option Addr) (n c : Nat) (w : World) (h : CameB w A n) (LY : ∃ m, Lays w m) :
    Calls Tryz.prog 3 #[.slice A n c] w fun e w' => e = .returned (.bool true) ∧ Below w.heap.size w w' := by
  obtain ⟨hb, hn⟩ := h
  obtain ⟨mx, hLY⟩ := LY
  by_cases hbig : (4096 : Int) < n
  · have hd : decide ((4096 : Int) < n) = true := by simpa using hbig
    have cF := fun W => f6big_any A n c W hn
    rw [hd] at cF
    have CF := Lib.hid cF
    clear cF hd hb hLY
    go_enter Tryz.func3, Tryz.ntmps3
    go_wp2_with (go_at_call 4; refine (CF.out _).mono ?_; rintro e w' ⟨rfl, rfl⟩)
    go_ret
    exact ⟨rfl, by (repeat (first | with_reducible exact Below.refl _ _ | with_reducible refine below_alloc ?_ _ | with_reducible refine below_drewN ?_ _ | with_reducible refine Below.drew ?_ | ((with_reducible refine below_set ?_ ?_ _); rotate_left; (focus (first | (simp; done) | (simp; omega) | omega))) | with_reducible refine below_call ?_ (by assumption)))⟩
  have hd : decide ((4096 : Int) < n) = false := by simpa using hbig
  have cF := fun W => f6big_any A n c W hn
  rw [hd] at cF
  have CF := Lib.hid cF
  have hn2 : n ≤ 4096 := by omega
  have BY : Hid (By w w A n mx) := Lib.hid ⟨hb, hLY, Below.refl _ _⟩
  clear cF hd hb hLY hbig hn
  go_enter Tryz.func3, Tryz.ntmps3
  go_wp2_with (go_at_call 4; refine (CF.out _).mono ?_; rintro e w' ⟨rfl, rfl⟩)
  go_at_call 5
  refine (DrawTurnCountWheel_any A n c _ BY.out.1 hn2).mono ?_
  rintro e w1 ⟨⟨L, m, d, zs, x, rfl, m0, x0, x1, hz, ho⟩, hb⟩
  have BY_ := Lib.hid (BY.out.call hb)
  clear BY
  have BY := BY_
  clear BY_
  have cp := ho.cap
  have hl := ho.len
  have ID : Hid (Ints w1 w1.heap.size L m zs) := Lib.hid (ho.ints (Nat.le_refl _))
  clear ho hb hz
  obtain ⟨n2, ys, cd, hR, hn3, hcd⟩ := rt_cases zs m x m0
  have HCD := Lib.hid hcd
  clear hcd
  have cT := fun W (h : Ints W W.heap.size L m zs) => TurnCountWheel_any L m d W.heap.size zs x W h (Nat.le_refl _) (by omega) cp.1 cp.2
  have cU := fun W (h : Ints W W.heap.size L m zs) => specTurnCountWheel_any L m d W.heap.size zs x W h (Nat.le_refl _) (by omega)
  rw [hR] at cT cU
  have CT := Lib.hid cT
  have CU := Lib.hid cU
  clear cT cU hR
  go_wp2_with fail
  have hal := alb0 w1 (.cells #[.slice L m d] 26)
  have BY_ := Lib.hid (BY.out.call hal)
  clear BY
  have BY := BY_
  clear BY_
  have D := Lib.hid (bx_new 26 d ID.out)
  clear hal ID
  obtain ⟨w2, hw⟩ : ∃ W, w1.alloc (.cells #[.slice L m d] 26) = W := ⟨_, rfl⟩
  obtain ⟨qD, hq⟩ : ∃ q, w1.heap.size = q := ⟨_, rfl⟩
  rw [hw] at D BY ⊢
  rw [hq] at D
  (try rw [hq])
  clear hq
  clear hw
  go_at_call 6
  refine (CT.out _ D.out.2.2).mono ?_
  rintro e w3 ⟨L2, d2, rfl, ho, hb⟩
  have D_ := Lib.hid (D.out.call hb)
  clear D
  have D := D_
  clear D_
  have BY_ := Lib.hid (BY.out.call hb)
  clear BY
  have BY := BY_
  clear BY_
  have IX : Hid (Ints w3 w3.heap.size L2 n2 ys) := Lib.hid (ho.ints (Nat.le_refl _))
  clear ho hb
  have cD := D.out.1
  have lD := D.out.2.1
  go_wp2_with fail
  clear cD lD
  have hal := alb0 w3 (.cells #[.slice L2 n2 d2] 26)
  have D_ := Lib.hid (D.out.call hal)
  clear D
  have D := D_
  clear D_
  have BY_ := Lib.hid (BY.out.call hal)
  clear BY
  have BY := BY_
  clear BY_
  have X := Lib.hid (bx_new 26 d2 IX.out)
  clear hal IX
  obtain ⟨w4, hw⟩ : ∃ W, w3.alloc (.cells #[.slice L2 n2 d2] 26) = W := ⟨_, rfl⟩
  obtain ⟨qX, hq⟩ : ∃ q, w3.heap.size = q := ⟨_, rfl⟩
  rw [hw] at D X BY ⊢
  rw [hq] at X
  (try rw [hq])
  clear hq
  clear hw
  go_at_call 7
  refine (CU.out _ D.out.2.2).mono ?_
  rintro e w5 ⟨L3, d3, rfl, ho, hb⟩
  have D_ := Lib.hid (D.out.call hb)
  clear D
  have D := D_
  clear D_
  have X_ := Lib.hid (X.out.call hb)
  clear X
  have X := X_
  clear X_
  have BY_ := Lib.hid (BY.out.call hb)
  clear BY
  have BY := BY_
  clear BY_
  have IM : Hid (Ints w5 w5.heap.size L3 n2 ys) := Lib.hid (ho.ints (Nat.le_refl _))
  clear ho hb
  have cD := D.out.1
  have lD := D.out.2.1
  have cX := X.out.1
  have lX := X.out.2.1
  go_wp2_with fail
  clear cD lD cX lX
  have hal := alb0 w5 (.cells #[.slice L3 n2 d3] 26)
  have D_ := Lib.hid (D.out.call hal)
  clear D
  have D := D_
  clear D_
  have X_ := Lib.hid (X.out.call hal)
  clear X
  have X := X_
  clear X_
  have BY_ := Lib.hid (BY.out.call hal)
  clear BY
  have BY := BY_
  clear BY_
  have M := Lib.hid (bx_new 26 d3 IM.out)
  clear hal IM
  obtain ⟨w6, hw⟩ : ∃ W, w5.alloc (.cells #[.slice L3 n2 d3] 26) = W := ⟨_, rfl⟩
  obtain ⟨qM, hq⟩ : ∃ q, w5.heap.size = q := ⟨_, rfl⟩
  rw [hw] at D X M BY ⊢
  rw [hq] at M
  (try rw [hq])
  clear hq
  clear hw
  go_at_call 8
  refine (f6self_b L2 L3 n2 n2 d2 d3 _ _ ys _ X.out.2.2 M.out.2.2 (by omega) (by omega)).mono ?_
  rintro e w7 ⟨rfl, hb⟩
  have D_ := Lib.hid (D.out.call hb)
  clear D
  have D := D_
  clear D_
  have X_ := Lib.hid (X.out.call hb)
  clear X
  have X := X_
  clear X_
  have M_ := Lib.hid (M.out.call hb)
  clear M
  have M := M_
  clear M_
  have BY_ := Lib.hid (BY.out.call hb)
  clear BY
  have BY := BY_
  clear BY_
  clear hb
  have cD := D.out.1
  have lD := D.out.2.1
  have cX := X.out.1
  have lX := X.out.2.1
  have cM := M.out.1
  have lM := M.out.2.1
  go_wp2_with fail
  clear cD lD cX lX cM lM
  go_at_call 9
  refine (CountWheelText_any L m d _ zs _ D.out.2.2 (Nat.le_refl _) (by omega)).mono ?_
  rintro e w8 ⟨rfl, hb⟩
  have D_ := Lib.hid (D.out.call hb)
  clear D
  have D := D_
  clear D_
  have X_ := Lib.hid (X.out.call hb)
  clear X
  have X := X_
  clear X_
  have M_ := Lib.hid (M.out.call hb)
  clear M
  have M := M_
  clear M_
  have BY_ := Lib.hid (BY.out.call hb)
  clear BY
  have BY := BY_
  clear BY_
  clear hb
  have HE := Lib.hid (wtx_empty zs)
  have hts : (⟨(wtx zs).toArray⟩ : ByteArray).size ≤ 1048576 := wtx_small m0 hl
  have cR := fun (W : World) (h : Lays W mx) => read_text zs mx W hts h
  have cS := fun (W : World) (h : Ints W W.heap.size L m zs) => specCountWheelText_any L m d W.heap.size zs W h (Nat.le_refl _) (by omega)
  obtain ⟨T, hT⟩ : ∃ T, (⟨(wtx zs).toArray⟩ : ByteArray) = T := ⟨_, rfl⟩
  rw [hT] at cR HE
  simp only [hT] at cS
  rw [hT]
  have CR := Lib.hid cR
  have CS := Lib.hid cS
  clear cR cS hts hT
  obtain ⟨v, hv⟩ : ∃ v, vWheel zs = v := ⟨_, rfl⟩
  have HV := Lib.hid hv
  rw [hv] at CR HE
  clear hv
  have cD := D.out.1
  have lD := D.out.2.1
  have cX := X.out.1
  have lX := X.out.2.1
  have cM := M.out.1
  have lM := M.out.2.1
  go_wp2_with fail
  clear cD lD cX lX cM lM
  go_at_call 10
  refine (CR.out _ BY.out.2.1).mono ?_
  rintro e w9 ⟨L4, n4, d4, rfl, ho, hb⟩
  have D_ := Lib.hid (D.out.call hb)
  clear D
  have D := D_
  clear D_
  have X_ := Lib.hid (X.out.call hb)
  clear X
  have X := X_
  clear X_
  have M_ := Lib.hid (M.out.call hb)
  clear M
  have M := M_
  clear M_
  have BY_ := Lib.hid (BY.out.call hb)
  clear BY
  have BY := BY_
  clear BY_
  have cp4 := ho.cap
  have hl4 := ho.len
  obtain ⟨rs, hrs⟩ : ∃ rs, (if v = true then zs else []) = rs := ⟨_, rfl⟩
  rw [hrs] at ho hl4
  have HRS := Lib.hid hrs
  clear hrs
  have IR : Hid (Ints w9 w9.heap.size L4 n4 rs) := Lib.hid (ho.ints (Nat.le_refl _))
  clear ho hb
  have cD := D.out.1
  have lD := D.out.2.1
  have cX := X.out.1
  have lX := X.out.2.1
  have cM := M.out.1
  have lM := M.out.2.1
  go_wp2_with fail
  clear cD lD cX lX cM lM
  have hal := alb0 w9 (.cells #[.slice L4 n4 d4] 26)
  have D_ := Lib.hid (D.out.call hal)
  clear D
  have D := D_
  clear D_
  have X_ := Lib.hid (X.out.call hal)
  clear X
  have X := X_
  clear X_
  have M_ := Lib.hid (M.out.call hal)
  clear M
  have M := M_
  clear M_
  have BY_ := Lib.hid (BY.out.call hal)
  clear BY
  have BY := BY_
  clear BY_
  have R := Lib.hid (bx_new 26 d4 IR.out)
  clear hal IR
  obtain ⟨w10, hw⟩ : ∃ W, w9.alloc (.cells #[.slice L4 n4 d4] 26) = W := ⟨_, rfl⟩
  obtain ⟨qR, hq⟩ : ∃ q, w9.heap.size = q := ⟨_, rfl⟩
  rw [hw] at D X M R BY ⊢
  rw [hq] at R
  (try rw [hq])
  clear hq
  clear hw
  go_at_call 11
  refine (DrawReadCountWheel_any A n c _ BY.out.1 hn2).mono ?_
  rintro e w11 ⟨⟨U, rfl, hu⟩, hb⟩
  have D_ := Lib.hid (D.out.call hb)
  clear D
  have D := D_
  clear D_
  have X_ := Lib.hid (X.out.call hb)
  clear X
  have X := X_
  clear X_
  have M_ := Lib.hid (M.out.call hb)
  clear M
  have M := M_
  clear M_
  have R_ := Lib.hid (R.out.call hb)
  clear R
  have R := R_
  clear R_
  have BY_ := Lib.hid (BY.out.call hb)
  clear BY
  have BY := BY_
  clear BY_
  clear hb
  have cP := fun (W : World) (h : Lays W mx) => ReadCountWheel_any U mx W (by omega) h
  have cQ := fun (W : World) => specReadCountWheel_any U W (by omega)
  unfold ReadWheel at cP cQ
  generalize vWheel (rdZ 45 U.data.toList) = r at cP cQ
  generalize (if r = true then rdZ 45 U.data.toList else []) = us at cP cQ
  have CP := Lib.hid cP
  have CQ := Lib.hid cQ
  clear cP cQ hu
  have cD := D.out.1
  have lD := D.out.2.1
  have cX := X.out.1
  have lX := X.out.2.1
  have cM := M.out.1
  have lM := M.out.2.1
  have cR := R.out.1
  have lR := R.out.2.1
  go_wp2_with fail
  clear cD lD cX lX cM lM cR lR
  go_at_call 10
  refine (CP.out _ BY.out.2.1).mono ?_
  rintro e w12 ⟨L5, n5, d5, rfl, ho, hb⟩
  have D_ := Lib.hid (D.out.call hb)
  clear D
  have D := D_
  clear D_
  have X_ := Lib.hid (X.out.call hb)
  clear X
  have X := X_
  clear X_
  have M_ := Lib.hid (M.out.call hb)
  clear M
  have M := M_
  clear M_
  have R_ := Lib.hid (R.out.call hb)
  clear R
  have R := R_
  clear R_
  have BY_ := Lib.hid (BY.out.call hb)
  clear BY
  have BY := BY_
  clear BY_
  have cp5 := ho.cap
  have IY : Hid (Ints w12 w12.heap.size L5 n5 us) := Lib.hid (ho.ints (Nat.le_refl _))
  clear ho hb
  have cD := D.out.1
  have lD := D.out.2.1
  have cX := X.out.1
  have lX := X.out.2.1
  have cM := M.out.1
  have lM := M.out.2.1
  have cR := R.out.1
  have lR := R.out.2.1
  go_wp2_with fail
  clear cD lD cX lX cM lM cR lR
  have hal := alb0 w12 (.cells #[.slice L5 n5 d5] 26)
  have D_ := Lib.hid (D.out.call hal)
  clear D
  have D := D_
  clear D_
  have X_ := Lib.hid (X.out.call hal)
  clear X
  have X := X_
  clear X_
  have M_ := Lib.hid (M.out.call hal)
  clear M
  have M := M_
  clear M_
  have R_ := Lib.hid (R.out.call hal)
  clear R
  have R := R_
  clear R_
  have BY_ := Lib.hid (BY.out.call hal)
  clear BY
  have BY := BY_
  clear BY_
  have Y := Lib.hid (bx_new 26 d5 IY.out)
  clear hal IY
  obtain ⟨w13, hw⟩ : ∃ W, w12.alloc (.cells #[.slice L5 n5 d5] 26) = W := ⟨_, rfl⟩
  obtain ⟨qY, hq⟩ : ∃ q, w12.heap.size = q := ⟨_, rfl⟩
  rw [hw] at D X M R Y BY ⊢
  rw [hq] at Y
  (try rw [hq])
  clear hq
  clear hw
  go_at_call 12
  refine (CQ.out _).mono ?_
  rintro e w14 ⟨L6, n6, d6, rfl, ho, hb⟩
  have D_ := Lib.hid (D.out.call hb)
  clear D
  have D := D_
  clear D_
  have X_ := Lib.hid (X.out.call hb)
  clear X
  have X := X_
  clear X_
  have M_ := Lib.hid (M.out.call hb)
  clear M
  have M := M_
  clear M_
  have R_ := Lib.hid (R.out.call hb)
  clear R
  have R := R_
  clear R_
  have Y_ := Lib.hid (Y.out.call hb)
  clear Y
  have Y := Y_
  clear Y_
  have BY_ := Lib.hid (BY.out.call hb)
  clear BY
  have BY := BY_
  clear BY_
  have cp6 := ho.cap
  have IZ : Hid (Ints w14 w14.heap.size L6 n6 us) := Lib.hid (ho.ints (Nat.le_refl _))
  clear ho hb
  have cD := D.out.1
  have lD := D.out.2.1
  have cX := X.out.1
  have lX := X.out.2.1
  have cM := M.out.1
  have lM := M.out.2.1
  have cR := R.out.1
  have lR := R.out.2.1
  have cY := Y.out.1
  have lY := Y.out.2.1
  go_wp2_with fail
  clear cD lD cX lX cM lM cR lR cY lY
  have hal := alb0 w14 (.cells #[.slice L6 n6 d6] 26)
  have D_ := Lib.hid (D.out.call hal)
  clear D
  have D := D_
  clear D_
  have X_ := Lib.hid (X.out.call hal)
  clear X
  have X := X_
  clear X_
  have M_ := Lib.hid (M.out.call hal)
  clear M
  have M := M_
  clear M_
  have R_ := Lib.hid (R.out.call hal)
  clear R
  have R := R_
  clear R_
  have Y_ := Lib.hid (Y.out.call hal)
  clear Y
  have Y := Y_
  clear Y_
  have BY_ := Lib.hid (BY.out.call hal)
  clear BY
  have BY := BY_
  clear BY_
  have Z := Lib.hid (bx_new 26 d6 IZ.out)
  clear hal IZ
  obtain ⟨w15, hw⟩ : ∃ W, w14.alloc (.cells #[.slice L6 n6 d6] 26) = W := ⟨_, rfl⟩
  obtain ⟨qZ, hq⟩ : ∃ q, w14.heap.size = q := ⟨_, rfl⟩
  rw [hw] at D X M R Y Z BY ⊢
  rw [hq] at Z
  (try rw [hq])
  clear hq
  clear hw
  go_at_call 13
  refine (DrawSameCycle_any A n c _ BY.out.1 hn2).mono ?_
  rintro e w16 ⟨⟨La, na, da, xs, Lb, nb, db, bs, rfl, a0, b0, ca, cb, ia, ib⟩, hb⟩
  have D_ := Lib.hid (D.out.call hb)
  clear D
  have D := D_
  clear D_
  have X_ := Lib.hid (X.out.call hb)
  clear X
  have X := X_
  clear X_
  have M_ := Lib.hid (M.out.call hb)
  clear M
  have M := M_
  clear M_
  have R_ := Lib.hid (R.out.call hb)
  clear R
  have R := R_
  clear R_
  have Y_ := Lib.hid (Y.out.call hb)
  clear Y
  have Y := Y_
  clear Y_
  have Z_ := Lib.hid (Z.out.call hb)
  clear Z
  have Z := Z_
  clear Z_
  have BY_ := Lib.hid (BY.out.call hb)
  clear BY
  have BY := BY_
  clear BY_
  have IA1 : Hid (Ints w16 w16.heap.size La na xs) := Lib.hid (ia)
  have IB1 : Hid (Ints w16 w16.heap.size Lb nb bs) := Lib.hid (ib)
  clear ia ib hb
  have cD := D.out.1
  have lD := D.out.2.1
  have cX := X.out.1
  have lX := X.out.2.1
  have cM := M.out.1
  have lM := M.out.2.1
  have cR := R.out.1
  have lR := R.out.2.1
  have cY := Y.out.1
  have lY := Y.out.2.1
  have cZ := Z.out.1
  have lZ := Z.out.2.1
  go_wp2
  clear cD lD cX lX cM lM cR lR cY lY cZ lZ
  have hal := alb0 w16 (.cells #[.slice La na da] 26)
  have D_ := Lib.hid (D.out.call hal)
  clear D
  have D := D_
  clear D_
  have X_ := Lib.hid (X.out.call hal)
  clear X
  have X := X_
  clear X_
  have M_ := Lib.hid (M.out.call hal)
  clear M
  have M := M_
  clear M_
  have R_ := Lib.hid (R.out.call hal)
  clear R
  have R := R_
  clear R_
  have Y_ := Lib.hid (Y.out.call hal)
  clear Y
  have Y := Y_
  clear Y_
  have Z_ := Lib.hid (Z.out.call hal)
  clear Z
  have Z := Z_
  clear Z_
  have IB1_ := Lib.hid ((IB1.out.below hal).more hal.size)
  clear IB1
  have IB1 := IB1_
  clear IB1_
  have BY_ := Lib.hid (BY.out.call hal)
  clear BY
  have BY := BY_
  clear BY_
  have A1 := Lib.hid (bx_new 26 da IA1.out)
  clear hal IA1
  obtain ⟨w17, hw⟩ : ∃ W, w16.alloc (.cells #[.slice La na da] 26) = W := ⟨_, rfl⟩
  obtain ⟨qA1, hq⟩ : ∃ q, w16.heap.size = q := ⟨_, rfl⟩
  have hzz : w17.heap.size = qA1 + 1 := by rw [← hw, ← hq]; simp
  rw [hw] at D X M R Y Z A1 BY ⊢
  rw [hq] at A1
  (try rw [hq])
  clear hq
  rw [hw] at IB1
  clear hw
  have hal := alb0 w17 (.cells #[.slice Lb nb db] 26)
  have D_ := Lib.hid (D.out.call hal)
  clear D
  have D := D_
  clear D_
  have X_ := Lib.hid (X.out.call hal)
  clear X
  have X := X_
  clear X_
  have M_ := Lib.hid (M.out.call hal)
  clear M
  have M := M_
  clear M_
  have R_ := Lib.hid (R.out.call hal)
  clear R
  have R := R_
  clear R_
  have Y_ := Lib.hid (Y.out.call hal)
  clear Y
  have Y := Y_
  clear Y_
  have Z_ := Lib.hid (Z.out.call hal)
  clear Z
  have Z := Z_
  clear Z_
  have A1_ := Lib.hid (A1.out.call hal)
  clear A1
  have A1 := A1_
  clear A1_
  have BY_ := Lib.hid (BY.out.call hal)
  clear BY
  have BY := BY_
  clear BY_
  have B1 := Lib.hid (bx_new 26 db IB1.out)
  clear hal IB1
  obtain ⟨w18, hw⟩ : ∃ W, w17.alloc (.cells #[.slice Lb nb db] 26) = W := ⟨_, rfl⟩
  obtain ⟨qB1, hq⟩ : ∃ q, w17.heap.size = q := ⟨_, rfl⟩
  have hq3 := hzz.symm.trans hq
  rw [hw] at D X M R Y Z A1 B1 BY ⊢
  rw [hq] at B1
  (try rw [hq])
  clear hq
  rw [hq3]
  clear hq3 hzz
  clear hw
  have cT := fun (W : World) (h : Below w18.heap.size w18 W) => CS.out W ((D.out.2.2.below h).more h.size)
  have cG := fun (W : World) (h : Below w18.heap.size w18 W) => f6self_b L5 L6 n5 n6 d5 d6 _ _ us W ((Y.out.2.2.below h).more h.size) ((Z.out.2.2.below h).more h.size) (by omega) (by omega)
  have hla := A1.out.2.2.len
  have hlb := B1.out.2.2.len
  have cA := fun (W : World) (h : Below w18.heap.size w18 W) => SameCycle_any La Lb na da nb db _ _ xs bs W ((A1.out.2.2.below h).more h.size) ((B1.out.2.2.below h).more h.size) (Nat.le_refl _) (Nat.le_refl _) (by omega) (by omega) ca.1 ca.2
  have cB := fun (W : World) (h : Below w18.heap.size w18 W) => SameCycle_any Lb La nb db na da _ _ bs xs W ((B1.out.2.2.below h).more h.size) ((A1.out.2.2.below h).more h.size) (Nat.le_refl _) (Nat.le_refl _) (by omega) (by omega) cb.1 cb.2
  have cC := fun (W : World) (h : Below w18.heap.size w18 W) => specSameCycle_any La Lb na da nb db _ _ xs bs W ((A1.out.2.2.below h).more h.size) ((B1.out.2.2.below h).more h.size) (Nat.le_refl _) (Nat.le_refl _) (by omega) (by omega) ca.1 ca.2
  rw [cyc_comm hla hlb] at cB
  generalize cycB xs bs na = V at cA cB cC
  have C1 := Lib.hid cT
  have C2 := Lib.hid cG
  have C3 := Lib.hid cA
  have C4 := Lib.hid cB
  have C5 := Lib.hid cC
  clear cT cG cA cB cC hla hlb
  have hE := HE.out
  have cD := D.out.1
  have lD := D.out.2.1
  have cR := R.out.1
  have lR := R.out.2.1
  have cY := Y.out.1
  have lY := Y.out.2.1
  have cZ := Z.out.1
  have lZ := Z.out.2.1
  have cA1 := A1.out.1
  have lA1 := A1.out.2.1
  have cB1 := B1.out.1
  have lB1 := B1.out.2.1
  have yb : Below w18.heap.size w18 w18 := Below.refl _ _
  cases v
  · have hE2 : T.toList.isEmpty = true := hE
    clear hE
    refine wp_region_held_drew (S := (fun w' => w'.cell? ⟨qD, 0, none⟩ = some (.slice L m d) ∧ w'.cell? ⟨qR, 0, none⟩ = some (.slice L4 n4 d4) ∧ w'.cell? ⟨qY, 0, none⟩ = some (.slice L5 n5 d5) ∧ w'.cell? ⟨qZ, 0, none⟩ = some (.slice L6 n6 d6) ∧ w'.cell? ⟨qA1, 0, none⟩ = some (.slice La na da) ∧ w'.cell? ⟨qB1, 0, none⟩ = some (.slice Lb nb db) ∧ qD < w'.heap.size ∧ qR < w'.heap.size ∧ qY < w'.heap.size ∧ qZ < w'.heap.size ∧ qA1 < w'.heap.size ∧ qB1 < w'.heap.size ∧ Below w18.heap.size w18 w')) (by kernel_rfl) ?_ (fun hHeld => ?_)
    · (try dsimp only); (first | ((try go_split_ands); (try dsimp only); refine ⟨?_, ?_, ?_, ?_, ?_, ?_, ?_, ?_, ?_, ?_, ?_, ?_, ?_⟩ <;> first | (exact cell_call (by assumption) (by assumption) (by assumption)) | (exact lt_call (by assumption) (by assumption)) | (exact below_call' (by assumption) (by assumption)) | (exact Below.drew (by assumption)) | (with_reducible assumption) | (simp; done) | (simp [*]; done) | ((repeat (first | with_reducible exact Below.refl _ _ | with_reducible refine below_alloc ?_ _ | with_reducible refine below_drewN ?_ _ | with_reducible refine Below.drew ?_ | ((with_reducible refine below_set ?_ ?_ _); rotate_left; (focus (first | (simp; done) | (simp; omega) | omega))) | with_reducible refine below_call ?_ (by assumption))); done) | omega | (simp; omega) | (simp [go_sem]; done) | (simp [go_sem, *]; done)))
    (refine wpAnyH_take (i := 0) (v := ?_) rfl (by kernel_rfl) (by kernel_rfl) (by kernel_rfl) (fun _ _ _ h => h) (Or.inl ⟨by kernel_rfl, ?_⟩) (by assumption) ?_; rotate_left; (focus (intro w hSw; (try dsimp only at hSw); go_simp; (try with_reducible rfl))); (try simp only [Act.put, List.getElem_toArray, List.getElem_cons_zero, List.getElem_cons_succ, List.setIfInBounds_toArray, List.set_cons_zero, List.set_cons_succ]))
    (refine wpAnyH_take (i := 1) (v := ?_) rfl (by kernel_rfl) (by kernel_rfl) (by kernel_rfl) (fun _ _ _ h => h) (Or.inl ⟨by kernel_rfl, ?_⟩) (by assumption) ?_; rotate_left; (focus (intro w hSw; (try dsimp only at hSw); go_simp; (try with_reducible rfl))); (try simp only [Act.put, List.getElem_toArray, List.getElem_cons_zero, List.getElem_cons_succ, List.setIfInBounds_toArray, List.set_cons_zero, List.set_cons_succ]))
    (refine wpAnyH_ready (rs := [2]) (by kernel_rfl) (by simp) ?_; refine AllReadyH.cons rfl (fun K hK => ?_) AllReadyH.nil; go_simp; (go_at_call 14; go_split_ands; refine (C1.out _ (by assumption)).mono ?_; rintro e1 wz ⟨rfl, hbz⟩); (try dsimp only); refine hK.out _ _ ?_ (fun hHeld => ?_); (focus ((try dsimp only); (first | ((try go_split_ands); (try dsimp only); refine ⟨?_, ?_, ?_, ?_, ?_, ?_, ?_, ?_, ?_, ?_, ?_, ?_, ?_⟩ <;> first | (exact cell_call (by assumption) (by assumption) (by assumption)) | (exact lt_call (by assumption) (by assumption)) | (exact below_call' (by assumption) (by assumption)) | (exact Below.drew (by assumption)) | (with_reducible assumption) | (simp; done) | (simp [*]; done) | ((repeat (first | with_reducible exact Below.refl _ _ | with_reducible refine below_alloc ?_ _ | with_reducible refine below_drewN ?_ _ | with_reducible refine Below.drew ?_ | ((with_reducible refine below_set ?_ ?_ _); rotate_left; (focus (first | (simp; done) | (simp; omega) | omega))) | with_reducible refine below_call ?_ (by assumption))); done) | omega | (simp; omega) | (simp [go_sem]; done) | (simp [go_sem, *]; done))))); clear hK K; (try simp only [Act.put, List.getElem_toArray, List.getElem_cons_zero, List.getElem_cons_succ, List.setIfInBounds_toArray, List.set_cons_zero, List.set_cons_succ]))
    (refine wpAnyH_take (i := 3) (v := ?_) rfl (by kernel_rfl) (by kernel_rfl) (by kernel_rfl) (fun _ _ _ h => h) (Or.inl ⟨by kernel_rfl, ?_⟩) (by assumption) ?_; rotate_left; (focus (intro w hSw; (try dsimp only at hSw); go_simp; (try with_reducible rfl))); (try simp only [Act.put, List.getElem_toArray, List.getElem_cons_zero, List.getElem_cons_succ, List.setIfInBounds_toArray, List.set_cons_zero, List.set_cons_succ]))
    (refine wpAnyH_take (i := 4) (v := ?_) rfl (by kernel_rfl) (by kernel_rfl) (by kernel_rfl) (fun _ _ _ h => h) (Or.inl ⟨by kernel_rfl, ?_⟩) (by assumption) ?_; rotate_left; (focus (intro w hSw; (try dsimp only at hSw); go_simp; (try with_reducible rfl))); (try simp only [Act.put, List.getElem_toArray, List.getElem_cons_zero, List.getElem_cons_succ, List.setIfInBounds_toArray, List.set_cons_zero, List.set_cons_succ]))
    (refine wpAnyH_take (i := 5) (v := ?_) rfl (by kernel_rfl) (by kernel_rfl) (by kernel_rfl) (fun _ _ _ h => h) (Or.inl ⟨by kernel_rfl, ?_⟩) (by assumption) ?_; rotate_left; (focus (intro w hSw; (try dsimp only at hSw); go_simp; (try with_reducible rfl))); (try simp only [Act.put, List.getElem_toArray, List.getElem_cons_zero, List.getElem_cons_succ, List.setIfInBounds_toArray, List.set_cons_zero, List.set_cons_succ]))
    (refine wpAnyH_take (i := 6) (v := ?_) rfl (by kernel_rfl) (by kernel_rfl) (by kernel_rfl) (fun _ _ _ h => h) (Or.inl ⟨by kernel_rfl, ?_⟩) (by assumption) ?_; rotate_left; (focus (intro w hSw; (try dsimp only at hSw); go_simp; (try with_reducible rfl))); (try simp only [Act.put, List.getElem_toArray, List.getElem_cons_zero, List.getElem_cons_succ, List.setIfInBounds_toArray, List.set_cons_zero, List.set_cons_succ]))
    (refine wpAnyH_take (i := 7) (v := ?_) rfl (by kernel_rfl) (by kernel_rfl) (by kernel_rfl) (fun _ _ _ h => h) (Or.inl ⟨by kernel_rfl, ?_⟩) (by assumption) ?_; rotate_left; (focus (intro w hSw; (try dsimp only at hSw); go_simp; (try with_reducible rfl))); (try simp only [Act.put, List.getElem_toArray, List.getElem_cons_zero, List.getElem_cons_succ, List.setIfInBounds_toArray, List.set_cons_zero, List.set_cons_succ]))
    (refine wpAnyH_take (i := 8) (v := ?_) rfl (by kernel_rfl) (by kernel_rfl) (by kernel_rfl) (fun _ _ _ h => h) (Or.inl ⟨by kernel_rfl, ?_⟩) (by assumption) ?_; rotate_left; (focus (intro w hSw; (try dsimp only at hSw); go_simp; (try with_reducible rfl))); (try simp only [Act.put, List.getElem_toArray, List.getElem_cons_zero, List.getElem_cons_succ, List.setIfInBounds_toArray, List.set_cons_zero, List.set_cons_succ]))
    (refine wpAnyH_take (i := 9) (v := ?_) rfl (by kernel_rfl) (by kernel_rfl) (by kernel_rfl) (fun _ _ _ h => h) (Or.inl ⟨by kernel_rfl, ?_⟩) (by assumption) ?_; rotate_left; (focus (intro w hSw; (try dsimp only at hSw); go_simp; (try with_reducible rfl))); (try simp only [Act.put, List.getElem_toArray, List.getElem_cons_zero, List.getElem_cons_succ, List.setIfInBounds_toArray, List.set_cons_zero, List.set_cons_succ]))
    (refine wpAnyH_take (i := 10) (v := ?_) rfl (by kernel_rfl) (by kernel_rfl) (by kernel_rfl) (fun _ _ _ h => h) (Or.inl ⟨by kernel_rfl, ?_⟩) (by assumption) ?_; rotate_left; (focus (intro w hSw; (try dsimp only at hSw); go_simp; (try with_reducible rfl))); (try simp only [Act.put, List.getElem_toArray, List.getElem_cons_zero, List.getElem_cons_succ, List.setIfInBounds_toArray, List.set_cons_zero, List.set_cons_succ]))
    (refine wpAnyH_take (i := 11) (v := ?_) rfl (by kernel_rfl) (by kernel_rfl) (by kernel_rfl) (fun _ _ _ h => h) (Or.inl ⟨by kernel_rfl, ?_⟩) (by assumption) ?_; rotate_left; (focus (intro w hSw; (try dsimp only at hSw); go_simp; (try with_reducible rfl))); (try simp only [Act.put, List.getElem_toArray, List.getElem_cons_zero, List.getElem_cons_succ, List.setIfInBounds_toArray, List.set_cons_zero, List.set_cons_succ]))
    (refine wpAnyH_take (i := 12) (v := ?_) rfl (by kernel_rfl) (by kernel_rfl) (by kernel_rfl) (fun _ _ _ h => h) (Or.inl ⟨by kernel_rfl, ?_⟩) (by assumption) ?_; rotate_left; (focus (intro w hSw; (try dsimp only at hSw); go_simp; (try with_reducible rfl))); (try simp only [Act.put, List.getElem_toArray, List.getElem_cons_zero, List.getElem_cons_succ, List.setIfInBounds_toArray, List.set_cons_zero, List.set_cons_succ]))
    (refine wpAnyH_take (i := 13) (v := _) rfl (by kernel_rfl) (by kernel_rfl) (by kernel_rfl) (fun _ _ _ h => h) (Or.inr ⟨by kernel_rfl, rfl⟩) (by assumption) ?_; (try simp only [Act.put, List.getElem_toArray, List.getElem_cons_zero, List.getElem_cons_succ, List.setIfInBounds_toArray, List.set_cons_zero, List.set_cons_succ]))
    (refine wpAnyH_take (i := 14) (v := _) rfl (by kernel_rfl) (by kernel_rfl) (by kernel_rfl) (fun _ _ _ h => h) (Or.inr ⟨by kernel_rfl, rfl⟩) (by assumption) ?_; (try simp only [Act.put, List.getElem_toArray, List.getElem_cons_zero, List.getElem_cons_succ, List.setIfInBounds_toArray, List.set_cons_zero, List.set_cons_succ]))
    (refine wpAnyH_take (i := 15) (v := _) rfl (by kernel_rfl) (by kernel_rfl) (by kernel_rfl) (fun _ _ _ h => h) (Or.inr ⟨by kernel_rfl, rfl⟩) (by assumption) ?_; (try simp only [Act.put, List.getElem_toArray, List.getElem_cons_zero, List.getElem_cons_succ, List.setIfInBounds_toArray, List.set_cons_zero, List.set_cons_succ]))
    (refine wpAnyH_take (i := 16) (v := _) rfl (by kernel_rfl) (by kernel_rfl) (by kernel_rfl) (fun _ _ _ h => h) (Or.inr ⟨by kernel_rfl, rfl⟩) (by assumption) ?_; (try simp only [Act.put, List.getElem_toArray, List.getElem_cons_zero, List.getElem_cons_succ, List.setIfInBounds_toArray, List.set_cons_zero, List.set_cons_succ]))
    (refine wpAnyH_take (i := 17) (v := _) rfl (by kernel_rfl) (by kernel_rfl) (by kernel_rfl) (fun _ _ _ h => h) (Or.inr ⟨by kernel_rfl, rfl⟩) (by assumption) ?_; (try simp only [Act.put, List.getElem_toArray, List.getElem_cons_zero, List.getElem_cons_succ, List.setIfInBounds_toArray, List.set_cons_zero, List.set_cons_succ]))
    (refine wpAnyH_take (i := 18) (v := _) rfl (by kernel_rfl) (by kernel_rfl) (by kernel_rfl) (fun _ _ _ h => h) (Or.inr ⟨by kernel_rfl, rfl⟩) (by assumption) ?_; (try simp only [Act.put, List.getElem_toArray, List.getElem_cons_zero, List.getElem_cons_succ, List.setIfInBounds_toArray, List.set_cons_zero, List.set_cons_succ]))
    (refine wpAnyH_take (i := 19) (v := ?_) rfl (by kernel_rfl) (by kernel_rfl) (by kernel_rfl) (fun _ _ _ h => h) (Or.inl ⟨by kernel_rfl, ?_⟩) (by assumption) ?_; rotate_left; (focus (intro w hSw; (try dsimp only at hSw); go_simp; (try with_reducible rfl))); (try simp only [Act.put, List.getElem_toArray, List.getElem_cons_zero, List.getElem_cons_succ, List.setIfInBounds_toArray, List.set_cons_zero, List.set_cons_succ]))
    (refine wpAnyH_take (i := 20) (v := ?_) rfl (by kernel_rfl) (by kernel_rfl) (by kernel_rfl) (fun _ _ _ h => h) (Or.inl ⟨by kernel_rfl, ?_⟩) (by assumption) ?_; rotate_left; (focus (intro w hSw; (try dsimp only at hSw); go_simp; (try with_reducible rfl))); (try simp only [Act.put, List.getElem_toArray, List.getElem_cons_zero, List.getElem_cons_succ, List.setIfInBounds_toArray, List.set_cons_zero, List.set_cons_succ]))
    (refine wpAnyH_take (i := 21) (v := ?_) rfl (by kernel_rfl) (by kernel_rfl) (by kernel_rfl) (fun _ _ _ h => h) (Or.inl ⟨by kernel_rfl, ?_⟩) (by assumption) ?_; rotate_left; (focus (intro w hSw; (try dsimp only at hSw); go_simp; (try with_reducible rfl))); (try simp only [Act.put, List.getElem_toArray, List.getElem_cons_zero, List.getElem_cons_succ, List.setIfInBounds_toArray, List.set_cons_zero, List.set_cons_succ]))
    (refine wpAnyH_take (i := 22) (v := ?_) rfl (by kernel_rfl) (by kernel_rfl) (by kernel_rfl) (fun _ _ _ h => h) (Or.inl ⟨by kernel_rfl, ?_⟩) (by assumption) ?_; rotate_left; (focus (intro w hSw; (try dsimp only at hSw); go_simp; (try with_reducible rfl))); (try simp only [Act.put, List.getElem_toArray, List.getElem_cons_zero, List.getElem_cons_succ, List.setIfInBounds_toArray, List.set_cons_zero, List.set_cons_succ]))
    (refine wpAnyH_take (i := 23) (v := ?_) rfl (by kernel_rfl) (by kernel_rfl) (by kernel_rfl) (fun _ _ _ h => h) (Or.inl ⟨by kernel_rfl, ?_⟩) (by assumption) ?_; rotate_left; (focus (intro w hSw; (try dsimp only at hSw); go_simp; (try with_reducible rfl))); (try simp only [Act.put, List.getElem_toArray, List.getElem_cons_zero, List.getElem_cons_succ, List.setIfInBounds_toArray, List.set_cons_zero, List.set_cons_succ]))
    (refine wpAnyH_take (i := 24) (v := ?_) rfl (by kernel_rfl) (by kernel_rfl) (by kernel_rfl) (fun _ _ _ h => h) (Or.inl ⟨by kernel_rfl, ?_⟩) (by assumption) ?_; rotate_left; (focus (intro w hSw; (try dsimp only at hSw); go_simp; (try with_reducible rfl))); (try simp only [Act.put, List.getElem_toArray, List.getElem_cons_zero, List.getElem_cons_succ, List.setIfInBounds_toArray, List.set_cons_zero, List.set_cons_succ]))
    (refine wpAnyH_take (i := 25) (v := ?_) rfl (by kernel_rfl) (by kernel_rfl) (by kernel_rfl) (fun _ _ _ h => h) (Or.inl ⟨by kernel_rfl, ?_⟩) (by assumption) ?_; rotate_left; (focus (intro w hSw; (try dsimp only at hSw); go_simp; (try with_reducible rfl))); (try simp only [Act.put, List.getElem_toArray, List.getElem_cons_zero, List.getElem_cons_succ, List.setIfInBounds_toArray, List.set_cons_zero, List.set_cons_succ]))
    (refine wpAnyH_take (i := 26) (v := ?_) rfl (by kernel_rfl) (by kernel_rfl) (by kernel_rfl) (fun _ _ _ h => h) (Or.inl ⟨by kernel_rfl, ?_⟩) (by assumption) ?_; rotate_left; (focus (intro w hSw; (try dsimp only at hSw); go_simp; (try with_reducible rfl))); (try simp only [Act.put, List.getElem_toArray, List.getElem_cons_zero, List.getElem_cons_succ, List.setIfInBounds_toArray, List.set_cons_zero, List.set_cons_succ]))
    (refine wpAnyH_take (i := 27) (v := ?_) rfl (by kernel_rfl) (by kernel_rfl) (by kernel_rfl) (fun _ _ _ h => h) (Or.inl ⟨by kernel_rfl, ?_⟩) (by assumption) ?_; rotate_left; (focus (intro w hSw; (try dsimp only at hSw); go_simp; (try with_reducible rfl))); (try simp only [Act.put, List.getElem_toArray, List.getElem_cons_zero, List.getElem_cons_succ, List.setIfInBounds_toArray, List.set_cons_zero, List.set_cons_succ]))
    (refine wpAnyH_take (i := 28) (v := ?_) rfl (by kernel_rfl) (by kernel_rfl) (by kernel_rfl) (fun _ _ _ h => h) (Or.inl ⟨by kernel_rfl, ?_⟩) (by assumption) ?_; rotate_left; (focus (intro w hSw; (try dsimp only at hSw); go_simp; (try with_reducible rfl))); (try simp only [Act.put, List.getElem_toArray, List.getElem_cons_zero, List.getElem_cons_succ, List.setIfInBounds_toArray, List.set_cons_zero, List.set_cons_succ]))
    (refine wpAnyH_take (i := 29) (v := ?_) rfl (by kernel_rfl) (by kernel_rfl) (by kernel_rfl) (fun _ _ _ h => h) (Or.inl ⟨by kernel_rfl, ?_⟩) (by assumption) ?_; rotate_left; (focus (intro w hSw; (try dsimp only at hSw); go_simp; (try with_reducible rfl))); (try simp only [Act.put, List.getElem_toArray, List.getElem_cons_zero, List.getElem_cons_succ, List.setIfInBounds_toArray, List.set_cons_zero, List.set_cons_succ]))
    (refine wpAnyH_take (i := 30) (v := ?_) rfl (by kernel_rfl) (by kernel_rfl) (by kernel_rfl) (fun _ _ _ h => h) (Or.inl ⟨by kernel_rfl, ?_⟩) (by assumption) ?_; rotate_left; (focus (intro w hSw; (try dsimp only at hSw); go_simp; (try with_reducible rfl))); (try simp only [Act.put, List.getElem_toArray, List.getElem_cons_zero, List.getElem_cons_succ, List.setIfInBounds_toArray, List.set_cons_zero, List.set_cons_succ]))
    (refine wpAnyH_ready (rs := [31]) (by kernel_rfl) (by simp) ?_; refine AllReadyH.cons rfl (fun K hK => ?_) AllReadyH.nil; go_simp; (go_at_call 8; go_split_ands; refine (C2.out _ (by assumption)).mono ?_; rintro e1 wz ⟨rfl, hbz⟩); (try dsimp only); refine hK.out _ _ ?_ (fun hHeld => ?_); (focus ((try dsimp only); (first | ((try go_split_ands); (try dsimp only); refine ⟨?_, ?_, ?_, ?_, ?_, ?_, ?_, ?_, ?_, ?_, ?_, ?_, ?_⟩ <;> first | (exact cell_call (by assumption) (by assumption) (by assumption)) | (exact lt_call (by assumption) (by assumption)) | (exact below_call' (by assumption) (by assumption)) | (exact Below.drew (by assumption)) | (with_reducible assumption) | (simp; done) | (simp [*]; done) | ((repeat (first | with_reducible exact Below.refl _ _ | with_reducible refine below_alloc ?_ _ | with_reducible refine below_drewN ?_ _ | with_reducible refine Below.drew ?_ | ((with_reducible refine below_set ?_ ?_ _); rotate_left; (focus (first | (simp; done) | (simp; omega) | omega))) | with_reducible refine below_call ?_ (by assumption))); done) | omega | (simp; omega) | (simp [go_sem]; done) | (simp [go_sem, *]; done))))); clear hK K; (try simp only [Act.put, List.getElem_toArray, List.getElem_cons_zero, List.getElem_cons_succ, List.setIfInBounds_toArray, List.set_cons_zero, List.set_cons_succ]))
    (refine wpAnyH_take (i := 32) (v := ?_) rfl (by kernel_rfl) (by kernel_rfl) (by kernel_rfl) (fun _ _ _ h => h) (Or.inl ⟨by kernel_rfl, ?_⟩) (by assumption) ?_; rotate_left; (focus (intro w hSw; (try dsimp only at hSw); go_simp; (try with_reducible rfl))); (try simp only [Act.put, List.getElem_toArray, List.getElem_cons_zero, List.getElem_cons_succ, List.setIfInBounds_toArray, List.set_cons_zero, List.set_cons_succ]))
    (refine wpAnyH_take (i := 33) (v := ?_) rfl (by kernel_rfl) (by kernel_rfl) (by kernel_rfl) (fun _ _ _ h => h) (Or.inl ⟨by kernel_rfl, ?_⟩) (by assumption) ?_; rotate_left; (focus (intro w hSw; (try dsimp only at hSw); go_simp; (try with_reducible rfl))); (try simp only [Act.put, List.getElem_toArray, List.getElem_cons_zero, List.getElem_cons_succ, List.setIfInBounds_toArray, List.set_cons_zero, List.set_cons_succ]))
    (refine wpAnyH_take (i := 34) (v := ?_) rfl (by kernel_rfl) (by kernel_rfl) (by kernel_rfl) (fun _ _ _ h => h) (Or.inl ⟨by kernel_rfl, ?_⟩) (by assumption) ?_; rotate_left; (focus (intro w hSw; (try dsimp only at hSw); go_simp; (try with_reducible rfl))); (try simp only [Act.put, List.getElem_toArray, List.getElem_cons_zero, List.getElem_cons_succ, List.setIfInBounds_toArray, List.set_cons_zero, List.set_cons_succ]))
    (refine wpAnyH_take (i := 35) (v := ?_) rfl (by kernel_rfl) (by kernel_rfl) (by kernel_rfl) (fun _ _ _ h => h) (Or.inl ⟨by kernel_rfl, ?_⟩) (by assumption) ?_; rotate_left; (focus (intro w hSw; (try dsimp only at hSw); go_simp; (try with_reducible rfl))); (try simp only [Act.put, List.getElem_toArray, List.getElem_cons_zero, List.getElem_cons_succ, List.setIfInBounds_toArray, List.set_cons_zero, List.set_cons_succ]))
    (refine wpAnyH_take (i := 36) (v := ?_) rfl (by kernel_rfl) (by kernel_rfl) (by kernel_rfl) (fun _ _ _ h => h) (Or.inl ⟨by kernel_rfl, ?_⟩) (by assumption) ?_; rotate_left; (focus (intro w hSw; (try dsimp only at hSw); go_simp; (try with_reducible rfl))); (try simp only [Act.put, List.getElem_toArray, List.getElem_cons_zero, List.getElem_cons_succ, List.setIfInBounds_toArray, List.set_cons_zero, List.set_cons_succ]))
    (refine wpAnyH_take (i := 38) (v := ?_) rfl (by kernel_rfl) (by kernel_rfl) (by kernel_rfl) (fun _ _ _ h => h) (Or.inl ⟨by kernel_rfl, ?_⟩) (by assumption) ?_; rotate_left; (focus (intro w hSw; (try dsimp only at hSw); go_simp; (try with_reducible rfl))); (try simp only [Act.put, List.getElem_toArray, List.getElem_cons_zero, List.getElem_cons_succ, List.setIfInBounds_toArray, List.set_cons_zero, List.set_cons_succ]))
    (refine wpAnyH_take (i := 39) (v := ?_) rfl (by kernel_rfl) (by kernel_rfl) (by kernel_rfl) (fun _ _ _ h => h) (Or.inl ⟨by kernel_rfl, ?_⟩) (by assumption) ?_; rotate_left; (focus (intro w hSw; (try dsimp only at hSw); go_simp; (try with_reducible rfl))); (try simp only [Act.put, List.getElem_toArray, List.getElem_cons_zero, List.getElem_cons_succ, List.setIfInBounds_toArray, List.set_cons_zero, List.set_cons_succ]))
    (refine wpAnyH_ready (rs := [37]) (by kernel_rfl) (by simp) ?_; refine AllReadyH.cons rfl (fun K hK => ?_) AllReadyH.nil; go_simp; (go_at_call 15; go_split_ands; refine (C3.out _ (by assumption)).mono ?_; rintro e1 wz ⟨rfl, hbz⟩); (try dsimp only); refine hK.out _ _ ?_ (fun hHeld => ?_); (focus ((try dsimp only); (first | ((try go_split_ands); (try dsimp only); refine ⟨?_, ?_, ?_, ?_, ?_, ?_, ?_, ?_, ?_, ?_, ?_, ?_, ?_⟩ <;> first | (exact cell_call (by assumption) (by assumption) (by assumption)) | (exact lt_call (by assumption) (by assumption)) | (exact below_call' (by assumption) (by assumption)) | (exact Below.drew (by assumption)) | (with_reducible assumption) | (simp; done) | (simp [*]; done) | ((repeat (first | with_reducible exact Below.refl _ _ | with_reducible refine below_alloc ?_ _ | with_reducible refine below_drewN ?_ _ | with_reducible refine Below.drew ?_ | ((with_reducible refine below_set ?_ ?_ _); rotate_left; (focus (first | (simp; done) | (simp; omega) | omega))) | with_reducible refine below_call ?_ (by assumption))); done) | omega | (simp; omega) | (simp [go_sem]; done) | (simp [go_sem, *]; done))))); clear hK K; (try simp only [Act.put, List.getElem_toArray, List.getElem_cons_zero, List.getElem_cons_succ, List.setIfInBounds_toArray, List.set_cons_zero, List.set_cons_succ]))
    (refine wpAnyH_ready (rs := [40]) (by kernel_rfl) (by simp) ?_; refine AllReadyH.cons rfl (fun K hK => ?_) AllReadyH.nil; go_simp; (go_at_call 16; go_split_ands; refine (C5.out _ (by assumption)).mono ?_; rintro e1 wz ⟨rfl, hbz⟩); (try dsimp only); refine hK.out _ _ ?_ (fun hHeld => ?_); (focus ((try dsimp only); (first | ((try go_split_ands); (try dsimp only); refine ⟨?_, ?_, ?_, ?_, ?_, ?_, ?_, ?_, ?_, ?_, ?_, ?_, ?_⟩ <;> first | (exact cell_call (by assumption) (by assumption) (by assumption)) | (exact lt_call (by assumption) (by assumption)) | (exact below_call' (by assumption) (by assumption)) | (exact Below.drew (by assumption)) | (with_reducible assumption) | (simp; done) | (simp [*]; done) | ((repeat (first | with_reducible exact Below.refl _ _ | with_reducible refine below_alloc ?_ _ | with_reducible refine below_drewN ?_ _ | with_reducible refine Below.drew ?_ | ((with_reducible refine below_set ?_ ?_ _); rotate_left; (focus (first | (simp; done) | (simp; omega) | omega))) | with_reducible refine below_call ?_ (by assumption))); done) | omega | (simp; omega) | (simp [go_sem]; done) | (simp [go_sem, *]; done))))); clear hK K; (try simp only [Act.put, List.getElem_toArray, List.getElem_cons_zero, List.getElem_cons_succ, List.setIfInBounds_toArray, List.set_cons_zero, List.set_cons_succ]))
    (refine wpAnyH_take (i := 41) (v := ?_) rfl (by kernel_rfl) (by kernel_rfl) (by kernel_rfl) (fun _ _ _ h => h) (Or.inl ⟨by kernel_rfl, ?_⟩) (by assumption) ?_; rotate_left; (focus (intro w hSw; (try dsimp only at hSw); go_simp; (try with_reducible rfl))); (try simp only [Act.put, List.getElem_toArray, List.getElem_cons_zero, List.getElem_cons_succ, List.setIfInBounds_toArray, List.set_cons_zero, List.set_cons_succ]))
    (refine wpAnyH_take (i := 42) (v := ?_) rfl (by kernel_rfl) (by kernel_rfl) (by kernel_rfl) (fun _ _ _ h => h) (Or.inl ⟨by kernel_rfl, ?_⟩) (by assumption) ?_; rotate_left; (focus (intro w hSw; (try dsimp only at hSw); go_simp; (try with_reducible rfl))); (try simp only [Act.put, List.getElem_toArray, List.getElem_cons_zero, List.getElem_cons_succ, List.setIfInBounds_toArray, List.set_cons_zero, List.set_cons_succ]))
    (refine wpAnyH_take (i := 43) (v := ?_) rfl (by kernel_rfl) (by kernel_rfl) (by kernel_rfl) (fun _ _ _ h => h) (Or.inl ⟨by kernel_rfl, ?_⟩) (by assumption) ?_; rotate_left; (focus (intro w hSw; (try dsimp only at hSw); go_simp; (try with_reducible rfl))); (try simp only [Act.put, List.getElem_toArray, List.getElem_cons_zero, List.getElem_cons_succ, List.setIfInBounds_toArray, List.set_cons_zero, List.set_cons_succ]))
    (refine wpAnyH_take (i := 44) (v := ?_) rfl (by kernel_rfl) (by kernel_rfl) (by kernel_rfl) (fun _ _ _ h => h) (Or.inl ⟨by kernel_rfl, ?_⟩) (by assumption) ?_; rotate_left; (focus (intro w hSw; (try dsimp only at hSw); go_simp; (try with_reducible rfl))); (try simp only [Act.put, List.getElem_toArray, List.getElem_cons_zero, List.getElem_cons_succ, List.setIfInBounds_toArray, List.set_cons_zero, List.set_cons_succ]))
    (refine wpAnyH_take (i := 45) (v := ?_) rfl (by kernel_rfl) (by kernel_rfl) (by kernel_rfl) (fun _ _ _ h => h) (Or.inl ⟨by kernel_rfl, ?_⟩) (by assumption) ?_; rotate_left; (focus (intro w hSw; (try dsimp only at hSw); go_simp; (try with_reducible rfl))); (try simp only [Act.put, List.getElem_toArray, List.getElem_cons_zero, List.getElem_cons_succ, List.setIfInBounds_toArray, List.set_cons_zero, List.set_cons_succ]))
    (refine wpAnyH_take (i := 47) (v := ?_) rfl (by kernel_rfl) (by kernel_rfl) (by kernel_rfl) (fun _ _ _ h => h) (Or.inl ⟨by kernel_rfl, ?_⟩) (by assumption) ?_; rotate_left; (focus (intro w hSw; (try dsimp only at hSw); go_simp; (try with_reducible rfl))); (try simp only [Act.put, List.getElem_toArray, List.getElem_cons_zero, List.getElem_cons_succ, List.setIfInBounds_toArray, List.set_cons_zero, List.set_cons_succ]))
    (refine wpAnyH_take (i := 48) (v := ?_) rfl (by kernel_rfl) (by kernel_rfl) (by kernel_rfl) (fun _ _ _ h => h) (Or.inl ⟨by kernel_rfl, ?_⟩) (by assumption) ?_; rotate_left; (focus (intro w hSw; (try dsimp only at hSw); go_simp; (try with_reducible rfl))); (try simp only [Act.put, List.getElem_toArray, List.getElem_cons_zero, List.getElem_cons_succ, List.setIfInBounds_toArray, List.set_cons_zero, List.set_cons_succ]))
    (refine wpAnyH_ready (rs := [46]) (by kernel_rfl) (by simp) ?_; refine AllReadyH.cons rfl (fun K hK => ?_) AllReadyH.nil; go_simp; (go_at_call 15; go_split_ands; refine (C4.out _ (by assumption)).mono ?_; rintro e1 wz ⟨rfl, hbz⟩); (try dsimp only); refine hK.out _ _ ?_ (fun hHeld => ?_); (focus ((try dsimp only); (first | ((try go_split_ands); (try dsimp only); refine ⟨?_, ?_, ?_, ?_, ?_, ?_, ?_, ?_, ?_, ?_, ?_, ?_, ?_⟩ <;> first | (exact cell_call (by assumption) (by assumption) (by assumption)) | (exact lt_call (by assumption) (by assumption)) | (exact below_call' (by assumption) (by assumption)) | (exact Below.drew (by assumption)) | (with_reducible assumption) | (simp; done) | (simp [*]; done) | ((repeat (first | with_reducible exact Below.refl _ _ | with_reducible refine below_alloc ?_ _ | with_reducible refine below_drewN ?_ _ | with_reducible refine Below.drew ?_ | ((with_reducible refine below_set ?_ ?_ _); rotate_left; (focus (first | (simp; done) | (simp; omega) | omega))) | with_reducible refine below_call ?_ (by assumption))); done) | omega | (simp; omega) | (simp [go_sem]; done) | (simp [go_sem, *]; done))))); clear hK K; (try simp only [Act.put, List.getElem_toArray, List.getElem_cons_zero, List.getElem_cons_succ, List.setIfInBounds_toArray, List.set_cons_zero, List.set_cons_succ]))
    (refine wpAnyH_ready (rs := [49]) (by kernel_rfl) (by simp) ?_; refine AllReadyH.cons rfl (fun K hK => ?_) AllReadyH.nil; go_simp; (go_at_call 16; go_split_ands; refine (C5.out _ (by assumption)).mono ?_; rintro e1 wz ⟨rfl, hbz⟩); (try dsimp only); refine hK.out _ _ ?_ (fun hHeld => ?_); (focus ((try dsimp only); (first | ((try go_split_ands); (try dsimp only); refine ⟨?_, ?_, ?_, ?_, ?_, ?_, ?_, ?_, ?_, ?_, ?_, ?_, ?_⟩ <;> first | (exact cell_call (by assumption) (by assumption) (by assumption)) | (exact lt_call (by assumption) (by assumption)) | (exact below_call' (by assumption) (by assumption)) | (exact Below.drew (by assumption)) | (with_reducible assumption) | (simp; done) | (simp [*]; done) | ((repeat (first | with_reducible exact Below.refl _ _ | with_reducible refine below_alloc ?_ _ | with_reducible refine below_drewN ?_ _ | with_reducible refine Below.drew ?_ | ((with_reducible refine below_set ?_ ?_ _); rotate_left; (focus (first | (simp; done) | (simp; omega) | omega))) | with_reducible refine below_call ?_ (by assumption))); done) | omega | (simp; omega) | (simp [go_sem]; done) | (simp [go_sem, *]; done))))); clear hK K; (try simp only [Act.put, List.getElem_toArray, List.getElem_cons_zero, List.getElem_cons_succ, List.setIfInBounds_toArray, List.set_cons_zero, List.set_cons_succ]))
    (refine wpAnyH_take (i := 50) (v := ?_) rfl (by kernel_rfl) (by kernel_rfl) (by kernel_rfl) (fun _ _ _ h => h) (Or.inl ⟨by kernel_rfl, ?_⟩) (by assumption) ?_; rotate_left; (focus (intro w hSw; (try dsimp only at hSw); go_simp; (try with_reducible rfl))); (try simp only [Act.put, List.getElem_toArray, List.getElem_cons_zero, List.getElem_cons_succ, List.setIfInBounds_toArray, List.set_cons_zero, List.set_cons_succ]))
    (refine wpAnyH_take (i := 51) (v := ?_) rfl (by kernel_rfl) (by kernel_rfl) (by kernel_rfl) (fun _ _ _ h => h) (Or.inl ⟨by kernel_rfl, ?_⟩) (by assumption) ?_; rotate_left; (focus (intro w hSw; (try dsimp only at hSw); go_simp; (try with_reducible rfl))); (try simp only [Act.put, List.getElem_toArray, List.getElem_cons_zero, List.getElem_cons_succ, List.setIfInBounds_toArray, List.set_cons_zero, List.set_cons_succ]))
    refine wpAnyH_done (by kernel_rfl) ?_ _
    have hbw := hHeld.2.2.2.2.2.2.2.2.2.2.2.2
    clear hHeld cD lD cR lR cY lY cZ lZ cA1 lA1 cB1 lB1 yb
    revert hbw
    generalize wz = w19
    intro hbw
    have D_ := Lib.hid (D.out.call hbw)
    clear D
    have D := D_
    clear D_
    have X_ := Lib.hid (X.out.call hbw)
    clear X
    have X := X_
    clear X_
    have BY_ := Lib.hid (BY.out.call hbw)
    clear BY
    have BY := BY_
    clear BY_
    clear hbw A1 B1 Z Y R M C1 C2 C3 C4 C5
    rcases HCD.out with hcd | ⟨k, hv, ex, hk, en, ey, ec⟩
    · have hcd2 : (cd != 0) = true := by unfold bne; rw [hcd]; rfl
      go_wp2
      go_ret
      exact ⟨rfl, BY.out.2.2⟩
    · subst n2
      subst x
      subst ys
      subst cd
      have h30 := sm_turn hl hk hv
      have cP := fun (W : World) (h : Ints W W.heap.size L m zs) => StrikeMany_any L m d W.heap.size zs (k : Int) 30 W h (Nat.le_refl _) (by omega)
      have cQ := fun (W : World) (h : Ints W W.heap.size L2 m (zs.drop k ++ zs.take k)) => StrikeMany_any L2 m d2 W.heap.size (zs.drop k ++ zs.take k) 0 30 W h (Nat.le_refl _) (by omega)
      have hsl := smL_len zs m (k : Int) 30
      rw [h30.1] at cP
      rw [h30.2.1, h30.2.2] at cQ
      generalize smL zs m (k : Int) 30 = ps at cP cQ hsl
      generalize smN zs m (k : Int) 30 = e1 at cP
      generalize smN (zs.drop k ++ zs.take k) m 0 30 = e2 at cQ
      have hl2 := X.out.2.2.len
      have cY := fun (W : World) (h : Ints W W.heap.size L m zs) (h2 : Ints W W.heap.size L2 m (zs.drop k ++ zs.take k)) => specSameCycle_any L L2 m d m d2 _ _ zs (zs.drop k ++ zs.take k) W h h2 (Nat.le_refl _) (Nat.le_refl _) (by omega) (by omega) (by omega) (by omega)
      rw [cyc_turn hk hv] at cY
      have CP2 := Lib.hid cP
      have CQ2 := Lib.hid cQ
      have CY2 := Lib.hid cY
      clear cP cQ cY h30 HCD
      generalize zs.drop k ++ zs.take k = ys at *
      have cD := D.out.1
      have lD := D.out.2.1
      have cX := X.out.1
      have lX := X.out.2.1
      go_wp2_with fail
      clear cD lD cX lX
      go_at_call 17
      refine (CP2.out _ D.out.2.2).mono ?_
      rintro e wa ⟨La2, ma, da2, rfl, ho, hb⟩
      have hma := ho.len
      have IA := Lib.hid (ho.ints (Nat.le_refl _))
      have D_ := Lib.hid (D.out.call hb)
      clear D
      have D := D_
      clear D_
      have X_ := Lib.hid (X.out.call hb)
      clear X
      have X := X_
      clear X_
      have BY_ := Lib.hid (BY.out.call hb)
      clear BY
      have BY := BY_
      clear BY_
      clear ho hb CP2
      have cD := D.out.1
      have lD := D.out.2.1
      have cX := X.out.1
      have lX := X.out.2.1
      go_wp2_with fail
      clear cD lD cX lX
      go_at_call 17
      refine (CQ2.out _ X.out.2.2).mono ?_
      rintro e wb ⟨Lb2, mb, db2, rfl, ho, hb⟩
      have hmb := ho.len
      have IB := Lib.hid (ho.ints (Nat.le_refl _))
      have IA_ := Lib.hid ((IA.out.below hb).more hb.size)
      clear IA
      have IA := IA_
      clear IA_
      have D_ := Lib.hid (D.out.call hb)
      clear D
      have D := D_
      clear D_
      have X_ := Lib.hid (X.out.call hb)
      clear X
      have X := X_
      clear X_
      have BY_ := Lib.hid (BY.out.call hb)
      clear BY
      have BY := BY_
      clear BY_
      clear ho hb CQ2
      go_wp2_with fail
      go_at_call 8
      refine (f6self_b La2 Lb2 ma mb da2 db2 _ _ ps _ IA.out IB.out (by omega) (by omega)).mono ?_
      rintro e wc ⟨rfl, hb⟩
      have D_ := Lib.hid (D.out.call hb)
      clear D
      have D := D_
      clear D_
      have X_ := Lib.hid (X.out.call hb)
      clear X
      have X := X_
      clear X_
      have BY_ := Lib.hid (BY.out.call hb)
      clear BY
      have BY := BY_
      clear BY_
      clear hb IA IB
      have cD := D.out.1
      have lD := D.out.2.1
      have cX := X.out.1
      have lX := X.out.2.1
      go_wp2_with fail
      clear cD lD cX lX
      go_at_call 16
      refine (CY2.out _ D.out.2.2 X.out.2.2).mono ?_
      rintro e we ⟨rfl, hb⟩
      have BY_ := Lib.hid (BY.out.call hb)
      clear hb
      go_wp2
      go_ret
      exact ⟨rfl, BY_.out.2.2⟩
  · have hE2 : T.toList.isEmpty = false := hE
    have e := HRS.out
    rw [if_pos rfl] at e
    subst e
    have cH := fun (W : World) (h : Below w18.heap.size w18 W) => f6self_b L4 L n4 m d4 d _ _ zs W ((R.out.2.2.below h).more h.size) ((D.out.2.2.below h).more h.size) (by omega) (by omega)
    have C6 := Lib.hid cH
    clear cH hE
    refine wp_region_held_drew (S := (fun w' => w'.cell? ⟨qD, 0, none⟩ = some (.slice L m d) ∧ w'.cell? ⟨qR, 0, none⟩ = some (.slice L4 n4 d4) ∧ w'.cell? ⟨qY, 0, none⟩ = some (.slice L5 n5 d5) ∧ w'.cell? ⟨qZ, 0, none⟩ = some (.slice L6 n6 d6) ∧ w'.cell? ⟨qA1, 0, none⟩ = some (.slice La na da) ∧ w'.cell? ⟨qB1, 0, none⟩ = some (.slice Lb nb db) ∧ qD < w'.heap.size ∧ qR < w'.heap.size ∧ qY < w'.heap.size ∧ qZ < w'.heap.size ∧ qA1 < w'.heap.size ∧ qB1 < w'.heap.size ∧ Below w18.heap.size w18 w')) (by kernel_rfl) ?_ (fun hHeld => ?_)
    · (try dsimp only); (first | ((try go_split_ands); (try dsimp only); refine ⟨?_, ?_, ?_, ?_, ?_, ?_, ?_, ?_, ?_, ?_, ?_, ?_, ?_⟩ <;> first | (exact cell_call (by assumption) (by assumption) (by assumption)) | (exact lt_call (by assumption) (by assumption)) | (exact below_call' (by assumption) (by assumption)) | (exact Below.drew (by assumption)) | (with_reducible assumption) | (simp; done) | (simp [*]; done) | ((repeat (first | with_reducible exact Below.refl _ _ | with_reducible refine below_alloc ?_ _ | with_reducible refine below_drewN ?_ _ | with_reducible refine Below.drew ?_ | ((with_reducible refine below_set ?_ ?_ _); rotate_left; (focus (first | (simp; done) | (simp; omega) | omega))) | with_reducible refine below_call ?_ (by assumption))); done) | omega | (simp; omega) | (simp [go_sem]; done) | (simp [go_sem, *]; done)))
    (refine wpAnyH_take (i := 0) (v := ?_) rfl (by kernel_rfl) (by kernel_rfl) (by kernel_rfl) (fun _ _ _ h => h) (Or.inl ⟨by kernel_rfl, ?_⟩) (by assumption) ?_; rotate_left; (focus (intro w hSw; (try dsimp only at hSw); go_simp; (try with_reducible rfl))); (try simp only [Act.put, List.getElem_toArray, List.getElem_cons_zero, List.getElem_cons_succ, List.setIfInBounds_toArray, List.set_cons_zero, List.set_cons_succ]))
    (refine wpAnyH_take (i := 1) (v := ?_) rfl (by kernel_rfl) (by kernel_rfl) (by kernel_rfl) (fun _ _ _ h => h) (Or.inl ⟨by kernel_rfl, ?_⟩) (by assumption) ?_; rotate_left; (focus (intro w hSw; (try dsimp only at hSw); go_simp; (try with_reducible rfl))); (try simp only [Act.put, List.getElem_toArray, List.getElem_cons_zero, List.getElem_cons_succ, List.setIfInBounds_toArray, List.set_cons_zero, List.set_cons_succ]))
    (refine wpAnyH_ready (rs := [2]) (by kernel_rfl) (by simp) ?_; refine AllReadyH.cons rfl (fun K hK => ?_) AllReadyH.nil; go_simp; (go_at_call 14; go_split_ands; refine (C1.out _ (by assumption)).mono ?_; rintro e1 wz ⟨rfl, hbz⟩); (try dsimp only); refine hK.out _ _ ?_ (fun hHeld => ?_); (focus ((try dsimp only); (first | ((try go_split_ands); (try dsimp only); refine ⟨?_, ?_, ?_, ?_, ?_, ?_, ?_, ?_, ?_, ?_, ?_, ?_, ?_⟩ <;> first | (exact cell_call (by assumption) (by assumption) (by assumption)) | (exact lt_call (by assumption) (by assumption)) | (exact below_call' (by assumption) (by assumption)) | (exact Below.drew (by assumption)) | (with_reducible assumption) | (simp; done) | (simp [*]; done) | ((repeat (first | with_reducible exact Below.refl _ _ | with_reducible refine below_alloc ?_ _ | with_reducible refine below_drewN ?_ _ | with_reducible refine Below.drew ?_ | ((with_reducible refine below_set ?_ ?_ _); rotate_left; (focus (first | (simp; done) | (simp; omega) | omega))) | with_reducible refine below_call ?_ (by assumption))); done) | omega | (simp; omega) | (simp [go_sem]; done) | (simp [go_sem, *]; done))))); clear hK K; (try simp only [Act.put, List.getElem_toArray, List.getElem_cons_zero, List.getElem_cons_succ, List.setIfInBounds_toArray, List.set_cons_zero, List.set_cons_succ]))
    (refine wpAnyH_take (i := 3) (v := ?_) rfl (by kernel_rfl) (by kernel_rfl) (by kernel_rfl) (fun _ _ _ h => h) (Or.inl ⟨by kernel_rfl, ?_⟩) (by assumption) ?_; rotate_left; (focus (intro w hSw; (try dsimp only at hSw); go_simp; (try with_reducible rfl))); (try simp only [Act.put, List.getElem_toArray, List.getElem_cons_zero, List.getElem_cons_succ, List.setIfInBounds_toArray, List.set_cons_zero, List.set_cons_succ]))
    (refine wpAnyH_take (i := 4) (v := ?_) rfl (by kernel_rfl) (by kernel_rfl) (by kernel_rfl) (fun _ _ _ h => h) (Or.inl ⟨by kernel_rfl, ?_⟩) (by assumption) ?_; rotate_left; (focus (intro w hSw; (try dsimp only at hSw); go_simp; (try with_reducible rfl))); (try simp only [Act.put, List.getElem_toArray, List.getElem_cons_zero, List.getElem_cons_succ, List.setIfInBounds_toArray, List.set_cons_zero, List.set_cons_succ]))
    (refine wpAnyH_take (i := 5) (v := ?_) rfl (by kernel_rfl) (by kernel_rfl) (by kernel_rfl) (fun _ _ _ h => h) (Or.inl ⟨by kernel_rfl, ?_⟩) (by assumption) ?_; rotate_left; (focus (intro w hSw; (try dsimp only at hSw); go_simp; (try with_reducible rfl))); (try simp only [Act.put, List.getElem_toArray, List.getElem_cons_zero, List.getElem_cons_succ, List.setIfInBounds_toArray, List.set_cons_zero, List.set_cons_succ]))
    (refine wpAnyH_take (i := 6) (v := ?_) rfl (by kernel_rfl) (by kernel_rfl) (by kernel_rfl) (fun _ _ _ h => h) (Or.inl ⟨by kernel_rfl, ?_⟩) (by assumption) ?_; rotate_left; (focus (intro w hSw; (try dsimp only at hSw); go_simp; (try with_reducible rfl))); (try simp only [Act.put, List.getElem_toArray, List.getElem_cons_zero, List.getElem_cons_succ, List.setIfInBounds_toArray, List.set_cons_zero, List.set_cons_succ]))
    (refine wpAnyH_take (i := 7) (v := ?_) rfl (by kernel_rfl) (by kernel_rfl) (by kernel_rfl) (fun _ _ _ h => h) (Or.inl ⟨by kernel_rfl, ?_⟩) (by assumption) ?_; rotate_left; (focus (intro w hSw; (try dsimp only at hSw); go_simp; (try with_reducible rfl))); (try simp only [Act.put, List.getElem_toArray, List.getElem_cons_zero, List.getElem_cons_succ, List.setIfInBounds_toArray, List.set_cons_zero, List.set_cons_succ]))
    (refine wpAnyH_take (i := 8) (v := ?_) rfl (by kernel_rfl) (by kernel_rfl) (by kernel_rfl) (fun _ _ _ h => h) (Or.inl ⟨by kernel_rfl, ?_⟩) (by assumption) ?_; rotate_left; (focus (intro w hSw; (try dsimp only at hSw); go_simp; (try with_reducible rfl))); (try simp only [Act.put, List.getElem_toArray, List.getElem_cons_zero, List.getElem_cons_succ, List.setIfInBounds_toArray, List.set_cons_zero, List.set_cons_succ]))
    (refine wpAnyH_take (i := 9) (v := ?_) rfl (by kernel_rfl) (by kernel_rfl) (by kernel_rfl) (fun _ _ _ h => h) (Or.inl ⟨by kernel_rfl, ?_⟩) (by assumption) ?_; rotate_left; (focus (intro w hSw; (try dsimp only at hSw); go_simp; (try with_reducible rfl))); (try simp only [Act.put, List.getElem_toArray, List.getElem_cons_zero, List.getElem_cons_succ, List.setIfInBounds_toArray, List.set_cons_zero, List.set_cons_succ]))
    (refine wpAnyH_take (i := 10) (v := ?_) rfl (by kernel_rfl) (by kernel_rfl) (by kernel_rfl) (fun _ _ _ h => h) (Or.inl ⟨by kernel_rfl, ?_⟩) (by assumption) ?_; rotate_left; (focus (intro w hSw; (try dsimp only at hSw); go_simp; (try with_reducible rfl))); (try simp only [Act.put, List.getElem_toArray, List.getElem_cons_zero, List.getElem_cons_succ, List.setIfInBounds_toArray, List.set_cons_zero, List.set_cons_succ]))
    (refine wpAnyH_take (i := 11) (v := ?_) rfl (by kernel_rfl) (by kernel_rfl) (by kernel_rfl) (fun _ _ _ h => h) (Or.inl ⟨by kernel_rfl, ?_⟩) (by assumption) ?_; rotate_left; (focus (intro w hSw; (try dsimp only at hSw); go_simp; (try with_reducible rfl))); (try simp only [Act.put, List.getElem_toArray, List.getElem_cons_zero, List.getElem_cons_succ, List.setIfInBounds_toArray, List.set_cons_zero, List.set_cons_succ]))
    (refine wpAnyH_take (i := 12) (v := ?_) rfl (by kernel_rfl) (by kernel_rfl) (by kernel_rfl) (fun _ _ _ h => h) (Or.inl ⟨by kernel_rfl, ?_⟩) (by assumption) ?_; rotate_left; (focus (intro w hSw; (try dsimp only at hSw); go_simp; (try with_reducible rfl))); (try simp only [Act.put, List.getElem_toArray, List.getElem_cons_zero, List.getElem_cons_succ, List.setIfInBounds_toArray, List.set_cons_zero, List.set_cons_succ]))
    (refine wpAnyH_take (i := 13) (v := ?_) rfl (by kernel_rfl) (by kernel_rfl) (by kernel_rfl) (fun _ _ _ h => h) (Or.inl ⟨by kernel_rfl, ?_⟩) (by assumption) ?_; rotate_left; (focus (intro w hSw; (try dsimp only at hSw); go_simp; (try with_reducible rfl))); (try simp only [Act.put, List.getElem_toArray, List.getElem_cons_zero, List.getElem_cons_succ, List.setIfInBounds_toArray, List.set_cons_zero, List.set_cons_succ]))
    (refine wpAnyH_take (i := 14) (v := ?_) rfl (by kernel_rfl) (by kernel_rfl) (by kernel_rfl) (fun _ _ _ h => h) (Or.inl ⟨by kernel_rfl, ?_⟩) (by assumption) ?_; rotate_left; (focus (intro w hSw; (try dsimp only at hSw); go_simp; (try with_reducible rfl))); (try simp only [Act.put, List.getElem_toArray, List.getElem_cons_zero, List.getElem_cons_succ, List.setIfInBounds_toArray, List.set_cons_zero, List.set_cons_succ]))
    (refine wpAnyH_take (i := 15) (v := ?_) rfl (by kernel_rfl) (by kernel_rfl) (by kernel_rfl) (fun _ _ _ h => h) (Or.inl ⟨by kernel_rfl, ?_⟩) (by assumption) ?_; rotate_left; (focus (intro w hSw; (try dsimp only at hSw); go_simp; (try with_reducible rfl))); (try simp only [Act.put, List.getElem_toArray, List.getElem_cons_zero, List.getElem_cons_succ, List.setIfInBounds_toArray, List.set_cons_zero, List.set_cons_succ]))
    (refine wpAnyH_take (i := 16) (v := ?_) rfl (by kernel_rfl) (by kernel_rfl) (by kernel_rfl) (fun _ _ _ h => h) (Or.inl ⟨by kernel_rfl, ?_⟩) (by assumption) ?_; rotate_left; (focus (intro w hSw; (try dsimp only at hSw); go_simp; (try with_reducible rfl))); (try simp only [Act.put, List.getElem_toArray, List.getElem_cons_zero, List.getElem_cons_succ, List.setIfInBounds_toArray, List.set_cons_zero, List.set_cons_succ]))
    (refine wpAnyH_ready (rs := [17]) (by kernel_rfl) (by simp) ?_; refine AllReadyH.cons rfl (fun K hK => ?_) AllReadyH.nil; go_simp; (go_at_call 8; go_split_ands; refine (C6.out _ (by assumption)).mono ?_; rintro e1 wz ⟨rfl, hbz⟩); (try dsimp only); refine hK.out _ _ ?_ (fun hHeld => ?_); (focus ((try dsimp only); (first | ((try go_split_ands); (try dsimp only); refine ⟨?_, ?_, ?_, ?_, ?_, ?_, ?_, ?_, ?_, ?_, ?_, ?_, ?_⟩ <;> first | (exact cell_call (by assumption) (by assumption) (by assumption)) | (exact lt_call (by assumption) (by assumption)) | (exact below_call' (by assumption) (by assumption)) | (exact Below.drew (by assumption)) | (with_reducible assumption) | (simp; done) | (simp [*]; done) | ((repeat (first | with_reducible exact Below.refl _ _ | with_reducible refine below_alloc ?_ _ | with_reducible refine below_drewN ?_ _ | with_reducible refine Below.drew ?_ | ((with_reducible refine below_set ?_ ?_ _); rotate_left; (focus (first | (simp; done) | (simp; omega) | omega))) | with_reducible refine below_call ?_ (by assumption))); done) | omega | (simp; omega) | (simp [go_sem]; done) | (simp [go_sem, *]; done))))); clear hK K; (try simp only [Act.put, List.getElem_toArray, List.getElem_cons_zero, List.getElem_cons_succ, List.setIfInBounds_toArray, List.set_cons_zero, List.set_cons_succ]))
    (refine wpAnyH_take (i := 18) (v := ?_) rfl (by kernel_rfl) (by kernel_rfl) (by kernel_rfl) (fun _ _ _ h => h) (Or.inl ⟨by kernel_rfl, ?_⟩) (by assumption) ?_; rotate_left; (focus (intro w hSw; (try dsimp only at hSw); go_simp; (try with_reducible rfl))); (try simp only [Act.put, List.getElem_toArray, List.getElem_cons_zero, List.getElem_cons_succ, List.setIfInBounds_toArray, List.set_cons_zero, List.set_cons_succ]))
    (refine wpAnyH_take (i := 19) (v := ?_) rfl (by kernel_rfl) (by kernel_rfl) (by kernel_rfl) (fun _ _ _ h => h) (Or.inl ⟨by kernel_rfl, ?_⟩) (by assumption) ?_; rotate_left; (focus (intro w hSw; (try dsimp only at hSw); go_simp; (try with_reducible rfl))); (try simp only [Act.put, List.getElem_toArray, List.getElem_cons_zero, List.getElem_cons_succ, List.setIfInBounds_toArray, List.set_cons_zero, List.set_cons_succ]))
    (refine wpAnyH_take (i := 20) (v := ?_) rfl (by kernel_rfl) (by kernel_rfl) (by kernel_rfl) (fun _ _ _ h => h) (Or.inl ⟨by kernel_rfl, ?_⟩) (by assumption) ?_; rotate_left; (focus (intro w hSw; (try dsimp only at hSw); go_simp; (try with_reducible rfl))); (try simp only [Act.put, List.getElem_toArray, List.getElem_cons_zero, List.getElem_cons_succ, List.setIfInBounds_toArray, List.set_cons_zero, List.set_cons_succ]))
    (refine wpAnyH_take (i := 21) (v := ?_) rfl (by kernel_rfl) (by kernel_rfl) (by kernel_rfl) (fun _ _ _ h => h) (Or.inl ⟨by kernel_rfl, ?_⟩) (by assumption) ?_; rotate_left; (focus (intro w hSw; (try dsimp only at hSw); go_simp; (try with_reducible rfl))); (try simp only [Act.put, List.getElem_toArray, List.getElem_cons_zero, List.getElem_cons_succ, List.setIfInBounds_toArray, List.set_cons_zero, List.set_cons_succ]))
    (refine wpAnyH_take (i := 22) (v := ?_) rfl (by kernel_rfl) (by kernel_rfl) (by kernel_rfl) (fun _ _ _ h => h) (Or.inl ⟨by kernel_rfl, ?_⟩) (by assumption) ?_; rotate_left; (focus (intro w hSw; (try dsimp only at hSw); go_simp; (try with_reducible rfl))); (try simp only [Act.put, List.getElem_toArray, List.getElem_cons_zero, List.getElem_cons_succ, List.setIfInBounds_toArray, List.set_cons_zero, List.set_cons_succ]))
    (refine wpAnyH_take (i := 23) (v := ?_) rfl (by kernel_rfl) (by kernel_rfl) (by kernel_rfl) (fun _ _ _ h => h) (Or.inl ⟨by kernel_rfl, ?_⟩) (by assumption) ?_; rotate_left; (focus (intro w hSw; (try dsimp only at hSw); go_simp; (try with_reducible rfl))); (try simp only [Act.put, List.getElem_toArray, List.getElem_cons_zero, List.getElem_cons_succ, List.setIfInBounds_toArray, List.set_cons_zero, List.set_cons_succ]))
    (refine wpAnyH_take (i := 24) (v := ?_) rfl (by kernel_rfl) (by kernel_rfl) (by kernel_rfl) (fun _ _ _ h => h) (Or.inl ⟨by kernel_rfl, ?_⟩) (by assumption) ?_; rotate_left; (focus (intro w hSw; (try dsimp only at hSw); go_simp; (try with_reducible rfl))); (try simp only [Act.put, List.getElem_toArray, List.getElem_cons_zero, List.getElem_cons_succ, List.setIfInBounds_toArray, List.set_cons_zero, List.set_cons_succ]))
    (refine wpAnyH_take (i := 25) (v := ?_) rfl (by kernel_rfl) (by kernel_rfl) (by kernel_rfl) (fun _ _ _ h => h) (Or.inl ⟨by kernel_rfl, ?_⟩) (by assumption) ?_; rotate_left; (focus (intro w hSw; (try dsimp only at hSw); go_simp; (try with_reducible rfl))); (try simp only [Act.put, List.getElem_toArray, List.getElem_cons_zero, List.getElem_cons_succ, List.setIfInBounds_toArray, List.set_cons_zero, List.set_cons_succ]))
    (refine wpAnyH_take (i := 26) (v := ?_) rfl (by kernel_rfl) (by kernel_rfl) (by kernel_rfl) (fun _ _ _ h => h) (Or.inl ⟨by kernel_rfl, ?_⟩) (by assumption) ?_; rotate_left; (focus (intro w hSw; (try dsimp only at hSw); go_simp; (try with_reducible rfl))); (try simp only [Act.put, List.getElem_toArray, List.getElem_cons_zero, List.getElem_cons_succ, List.setIfInBounds_toArray, List.set_cons_zero, List.set_cons_succ]))
    (refine wpAnyH_take (i := 27) (v := ?_) rfl (by kernel_rfl) (by kernel_rfl) (by kernel_rfl) (fun _ _ _ h => h) (Or.inl ⟨by kernel_rfl, ?_⟩) (by assumption) ?_; rotate_left; (focus (intro w hSw; (try dsimp only at hSw); go_simp; (try with_reducible rfl))); (try simp only [Act.put, List.getElem_toArray, List.getElem_cons_zero, List.getElem_cons_succ, List.setIfInBounds_toArray, List.set_cons_zero, List.set_cons_succ]))
    (refine wpAnyH_take (i := 28) (v := ?_) rfl (by kernel_rfl) (by kernel_rfl) (by kernel_rfl) (fun _ _ _ h => h) (Or.inl ⟨by kernel_rfl, ?_⟩) (by assumption) ?_; rotate_left; (focus (intro w hSw; (try dsimp only at hSw); go_simp; (try with_reducible rfl))); (try simp only [Act.put, List.getElem_toArray, List.getElem_cons_zero, List.getElem_cons_succ, List.setIfInBounds_toArray, List.set_cons_zero, List.set_cons_succ]))
    (refine wpAnyH_take (i := 29) (v := ?_) rfl (by kernel_rfl) (by kernel_rfl) (by kernel_rfl) (fun _ _ _ h => h) (Or.inl ⟨by kernel_rfl, ?_⟩) (by assumption) ?_; rotate_left; (focus (intro w hSw; (try dsimp only at hSw); go_simp; (try with_reducible rfl))); (try simp only [Act.put, List.getElem_toArray, List.getElem_cons_zero, List.getElem_cons_succ, List.setIfInBounds_toArray, List.set_cons_zero, List.set_cons_succ]))
    (refine wpAnyH_take (i := 30) (v := ?_) rfl (by kernel_rfl) (by kernel_rfl) (by kernel_rfl) (fun _ _ _ h => h) (Or.inl ⟨by kernel_rfl, ?_⟩) (by assumption) ?_; rotate_left; (focus (intro w hSw; (try dsimp only at hSw); go_simp; (try with_reducible rfl))); (try simp only [Act.put, List.getElem_toArray, List.getElem_cons_zero, List.getElem_cons_succ, List.setIfInBounds_toArray, List.set_cons_zero, List.set_cons_succ]))
    (refine wpAnyH_ready (rs := [31]) (by kernel_rfl) (by simp) ?_; refine AllReadyH.cons rfl (fun K hK => ?_) AllReadyH.nil; go_simp; (go_at_call 8; go_split_ands; refine (C2.out _ (by assumption)).mono ?_; rintro e1 wz ⟨rfl, hbz⟩); (try dsimp only); refine hK.out _ _ ?_ (fun hHeld => ?_); (focus ((try dsimp only); (first | ((try go_split_ands); (try dsimp only); refine ⟨?_, ?_, ?_, ?_, ?_, ?_, ?_, ?_, ?_, ?_, ?_, ?_, ?_⟩ <;> first | (exact cell_call (by assumption) (by assumption) (by assumption)) | (exact lt_call (by assumption) (by assumption)) | (exact below_call' (by assumption) (by assumption)) | (exact Below.drew (by assumption)) | (with_reducible assumption) | (simp; done) | (simp [*]; done) | ((repeat (first | with_reducible exact Below.refl _ _ | with_reducible refine below_alloc ?_ _ | with_reducible refine below_drewN ?_ _ | with_reducible refine Below.drew ?_ | ((with_reducible refine below_set ?_ ?_ _); rotate_left; (focus (first | (simp; done) | (simp; omega) | omega))) | with_reducible refine below_call ?_ (by assumption))); done) | omega | (simp; omega) | (simp [go_sem]; done) | (simp [go_sem, *]; done))))); clear hK K; (try simp only [Act.put, List.getElem_toArray, List.getElem_cons_zero, List.getElem_cons_succ, List.setIfInBounds_toArray, List.set_cons_zero, List.set_cons_succ]))
    (refine wpAnyH_take (i := 32) (v := ?_) rfl (by kernel_rfl) (by kernel_rfl) (by kernel_rfl) (fun _ _ _ h => h) (Or.inl ⟨by kernel_rfl, ?_⟩) (by assumption) ?_; rotate_left; (focus (intro w hSw; (try dsimp only at hSw); go_simp; (try with_reducible rfl))); (try simp only [Act.put, List.getElem_toArray, List.getElem_cons_zero, List.getElem_cons_succ, List.setIfInBounds_toArray, List.set_cons_zero, List.set_cons_succ]))
    (refine wpAnyH_take (i := 33) (v := ?_) rfl (by kernel_rfl) (by kernel_rfl) (by kernel_rfl) (fun _ _ _ h => h) (Or.inl ⟨by kernel_rfl, ?_⟩) (by assumption) ?_; rotate_left; (focus (intro w hSw; (try dsimp only at hSw); go_simp; (try with_reducible rfl))); (try simp only [Act.put, List.getElem_toArray, List.getElem_cons_zero, List.getElem_cons_succ, List.setIfInBounds_toArray, List.set_cons_zero, List.set_cons_succ]))
    (refine wpAnyH_take (i := 34) (v := ?_) rfl (by kernel_rfl) (by kernel_rfl) (by kernel_rfl) (fun _ _ _ h => h) (Or.inl ⟨by kernel_rfl, ?_⟩) (by assumption) ?_; rotate_left; (focus (intro w hSw; (try dsimp only at hSw); go_simp; (try with_reducible rfl))); (try simp only [Act.put, List.getElem_toArray, List.getElem_cons_zero, List.getElem_cons_succ, List.setIfInBounds_toArray, List.set_cons_zero, List.set_cons_succ]))
    (refine wpAnyH_take (i := 35) (v := ?_) rfl (by kernel_rfl) (by kernel_rfl) (by kernel_rfl) (fun _ _ _ h => h) (Or.inl ⟨by kernel_rfl, ?_⟩) (by assumption) ?_; rotate_left; (focus (intro w hSw; (try dsimp only at hSw); go_simp; (try with_reducible rfl))); (try simp only [Act.put, List.getElem_toArray, List.getElem_cons_zero, List.getElem_cons_succ, List.setIfInBounds_toArray, List.set_cons_zero, List.set_cons_succ]))
    (refine wpAnyH_take (i := 36) (v := ?_) rfl (by kernel_rfl) (by kernel_rfl) (by kernel_rfl) (fun _ _ _ h => h) (Or.inl ⟨by kernel_rfl, ?_⟩) (by assumption) ?_; rotate_left; (focus (intro w hSw; (try dsimp only at hSw); go_simp; (try with_reducible rfl))); (try simp only [Act.put, List.getElem_toArray, List.getElem_cons_zero, List.getElem_cons_succ, List.setIfInBounds_toArray, List.set_cons_zero, List.set_cons_succ]))
    (refine wpAnyH_take (i := 38) (v := ?_) rfl (by kernel_rfl) (by kernel_rfl) (by kernel_rfl) (fun _ _ _ h => h) (Or.inl ⟨by kernel_rfl, ?_⟩) (by assumption) ?_; rotate_left; (focus (intro w hSw; (try dsimp only at hSw); go_simp; (try with_reducible rfl))); (try simp only [Act.put, List.getElem_toArray, List.getElem_cons_zero, List.getElem_cons_succ, List.setIfInBounds_toArray, List.set_cons_zero, List.set_cons_succ]))
    (refine wpAnyH_take (i := 39) (v := ?_) rfl (by kernel_rfl) (by kernel_rfl) (by kernel_rfl) (fun _ _ _ h => h) (Or.inl ⟨by kernel_rfl, ?_⟩) (by assumption) ?_; rotate_left; (focus (intro w hSw; (try dsimp only at hSw); go_simp; (try with_reducible rfl))); (try simp only [Act.put, List.getElem_toArray, List.getElem_cons_zero, List.getElem_cons_succ, List.setIfInBounds_toArray, List.set_cons_zero, List.set_cons_succ]))
    (refine wpAnyH_ready (rs := [37]) (by kernel_rfl) (by simp) ?_; refine AllReadyH.cons rfl (fun K hK => ?_) AllReadyH.nil; go_simp; (go_at_call 15; go_split_ands; refine (C3.out _ (by assumption)).mono ?_; rintro e1 wz ⟨rfl, hbz⟩); (try dsimp only); refine hK.out _ _ ?_ (fun hHeld => ?_); (focus ((try dsimp only); (first | ((try go_split_ands); (try dsimp only); refine ⟨?_, ?_, ?_, ?_, ?_, ?_, ?_, ?_, ?_, ?_, ?_, ?_, ?_⟩ <;> first | (exact cell_call (by assumption) (by assumption) (by assumption)) | (exact lt_call (by assumption) (by assumption)) | (exact below_call' (by assumption) (by assumption)) | (exact Below.drew (by assumption)) | (with_reducible assumption) | (simp; done) | (simp [*]; done) | ((repeat (first | with_reducible exact Below.refl _ _ | with_reducible refine below_alloc ?_ _ | with_reducible refine below_drewN ?_ _ | with_reducible refine Below.drew ?_ | ((with_reducible refine below_set ?_ ?_ _); rotate_left; (focus (first | (simp; done) | (simp; omega) | omega))) | with_reducible refine below_call ?_ (by assumption))); done) | omega | (simp; omega) | (simp [go_sem]; done) | (simp [go_sem, *]; done))))); clear hK K; (try simp only [Act.put, List.getElem_toArray, List.getElem_cons_zero, List.getElem_cons_succ, List.setIfInBounds_toArray, List.set_cons_zero, List.set_cons_succ]))
    (refine wpAnyH_ready (rs := [40]) (by kernel_rfl) (by simp) ?_; refine AllReadyH.cons rfl (fun K hK => ?_) AllReadyH.nil; go_simp; (go_at_call 16; go_split_ands; refine (C5.out _ (by assumption)).mono ?_; rintro e1 wz ⟨rfl, hbz⟩); (try dsimp only); refine hK.out _ _ ?_ (fun hHeld => ?_); (focus ((try dsimp only); (first | ((try go_split_ands); (try dsimp only); refine ⟨?_, ?_, ?_, ?_, ?_, ?_, ?_, ?_, ?_, ?_, ?_, ?_, ?_⟩ <;> first | (exact cell_call (by assumption) (by assumption) (by assumption)) | (exact lt_call (by assumption) (by assumption)) | (exact below_call' (by assumption) (by assumption)) | (exact Below.drew (by assumption)) | (with_reducible assumption) | (simp; done) | (simp [*]; done) | ((repeat (first | with_reducible exact Below.refl _ _ | with_reducible refine below_alloc ?_ _ | with_reducible refine below_drewN ?_ _ | with_reducible refine Below.drew ?_ | ((with_reducible refine below_set ?_ ?_ _); rotate_left; (focus (first | (simp; done) | (simp; omega) | omega))) | with_reducible refine below_call ?_ (by assumption))); done) | omega | (simp; omega) | (simp [go_sem]; done) | (simp [go_sem, *]; done))))); clear hK K; (try simp only [Act.put, List.getElem_toArray, List.getElem_cons_zero, List.getElem_cons_succ, List.setIfInBounds_toArray, List.set_cons_zero, List.set_cons_succ]))
    (refine wpAnyH_take (i := 41) (v := ?_) rfl (by kernel_rfl) (by kernel_rfl) (by kernel_rfl) (fun _ _ _ h => h) (Or.inl ⟨by kernel_rfl, ?_⟩) (by assumption) ?_; rotate_left; (focus (intro w hSw; (try dsimp only at hSw); go_simp; (try with_reducible rfl))); (try simp only [Act.put, List.getElem_toArray, List.getElem_cons_zero, List.getElem_cons_succ, List.setIfInBounds_toArray, List.set_cons_zero, List.set_cons_succ]))
    (refine wpAnyH_take (i := 42) (v := ?_) rfl (by kernel_rfl) (by kernel_rfl) (by kernel_rfl) (fun _ _ _ h => h) (Or.inl ⟨by kernel_rfl, ?_⟩) (by assumption) ?_; rotate_left; (focus (intro w hSw; (try dsimp only at hSw); go_simp; (try with_reducible rfl))); (try simp only [Act.put, List.getElem_toArray, List.getElem_cons_zero, List.getElem_cons_succ, List.setIfInBounds_toArray, List.set_cons_zero, List.set_cons_succ]))
    (refine wpAnyH_take (i := 43) (v := ?_) rfl (by kernel_rfl) (by kernel_rfl) (by kernel_rfl) (fun _ _ _ h => h) (Or.inl ⟨by kernel_rfl, ?_⟩) (by assumption) ?_; rotate_left; (focus (intro w hSw; (try dsimp only at hSw); go_simp; (try with_reducible rfl))); (try simp only [Act.put, List.getElem_toArray, List.getElem_cons_zero, List.getElem_cons_succ, List.setIfInBounds_toArray, List.set_cons_zero, List.set_cons_succ]))
    (refine wpAnyH_take (i := 44) (v := ?_) rfl (by kernel_rfl) (by kernel_rfl) (by kernel_rfl) (fun _ _ _ h => h) (Or.inl ⟨by kernel_rfl, ?_⟩) (by assumption) ?_; rotate_left; (focus (intro w hSw; (try dsimp only at hSw); go_simp; (try with_reducible rfl))); (try simp only [Act.put, List.getElem_toArray, List.getElem_cons_zero, List.getElem_cons_succ, List.setIfInBounds_toArray, List.set_cons_zero, List.set_cons_succ]))
    (refine wpAnyH_take (i := 45) (v := ?_) rfl (by kernel_rfl) (by kernel_rfl) (by kernel_rfl) (fun _ _ _ h => h) (Or.inl ⟨by kernel_rfl, ?_⟩) (by assumption) ?_; rotate_left; (focus (intro w hSw; (try dsimp only at hSw); go_simp; (try with_reducible rfl))); (try simp only [Act.put, List.getElem_toArray, List.getElem_cons_zero, List.getElem_cons_succ, List.setIfInBounds_toArray, List.set_cons_zero, List.set_cons_succ]))
    (refine wpAnyH_take (i := 47) (v := ?_) rfl (by kernel_rfl) (by kernel_rfl) (by kernel_rfl) (fun _ _ _ h => h) (Or.inl ⟨by kernel_rfl, ?_⟩) (by assumption) ?_; rotate_left; (focus (intro w hSw; (try dsimp only at hSw); go_simp; (try with_reducible rfl))); (try simp only [Act.put, List.getElem_toArray, List.getElem_cons_zero, List.getElem_cons_succ, List.setIfInBounds_toArray, List.set_cons_zero, List.set_cons_succ]))
    (refine wpAnyH_take (i := 48) (v := ?_) rfl (by kernel_rfl) (by kernel_rfl) (by kernel_rfl) (fun _ _ _ h => h) (Or.inl ⟨by kernel_rfl, ?_⟩) (by assumption) ?_; rotate_left; (focus (intro w hSw; (try dsimp only at hSw); go_simp; (try with_reducible rfl))); (try simp only [Act.put, List.getElem_toArray, List.getElem_cons_zero, List.getElem_cons_succ, List.setIfInBounds_toArray, List.set_cons_zero, List.set_cons_succ]))
    (refine wpAnyH_ready (rs := [46]) (by kernel_rfl) (by simp) ?_; refine AllReadyH.cons rfl (fun K hK => ?_) AllReadyH.nil; go_simp; (go_at_call 15; go_split_ands; refine (C4.out _ (by assumption)).mono ?_; rintro e1 wz ⟨rfl, hbz⟩); (try dsimp only); refine hK.out _ _ ?_ (fun hHeld => ?_); (focus ((try dsimp only); (first | ((try go_split_ands); (try dsimp only); refine ⟨?_, ?_, ?_, ?_, ?_, ?_, ?_, ?_, ?_, ?_, ?_, ?_, ?_⟩ <;> first | (exact cell_call (by assumption) (by assumption) (by assumption)) | (exact lt_call (by assumption) (by assumption)) | (exact below_call' (by assumption) (by assumption)) | (exact Below.drew (by assumption)) | (with_reducible assumption) | (simp; done) | (simp [*]; done) | ((repeat (first | with_reducible exact Below.refl _ _ | with_reducible refine below_alloc ?_ _ | with_reducible refine below_drewN ?_ _ | with_reducible refine Below.drew ?_ | ((with_reducible refine below_set ?_ ?_ _); rotate_left; (focus (first | (simp; done) | (simp; omega) | omega))) | with_reducible refine below_call ?_ (by assumption))); done) | omega | (simp; omega) | (simp [go_sem]; done) | (simp [go_sem, *]; done))))); clear hK K; (try simp only [Act.put, List.getElem_toArray, List.getElem_cons_zero, List.getElem_cons_succ, List.setIfInBounds_toArray, List.set_cons_zero, List.set_cons_succ]))
    (refine wpAnyH_ready (rs := [49]) (by kernel_rfl) (by simp) ?_; refine AllReadyH.cons rfl (fun K hK => ?_) AllReadyH.nil; go_simp; (go_at_call 16; go_split_ands; refine (C5.out _ (by assumption)).mono ?_; rintro e1 wz ⟨rfl, hbz⟩); (try dsimp only); refine hK.out _ _ ?_ (fun hHeld => ?_); (focus ((try dsimp only); (first | ((try go_split_ands); (try dsimp only); refine ⟨?_, ?_, ?_, ?_, ?_, ?_, ?_, ?_, ?_, ?_, ?_, ?_, ?_⟩ <;> first | (exact cell_call (by assumption) (by assumption) (by assumption)) | (exact lt_call (by assumption) (by assumption)) | (exact below_call' (by assumption) (by assumption)) | (exact Below.drew (by assumption)) | (with_reducible assumption) | (simp; done) | (simp [*]; done) | ((repeat (first | with_reducible exact Below.refl _ _ | with_reducible refine below_alloc ?_ _ | with_reducible refine below_drewN ?_ _ | with_reducible refine Below.drew ?_ | ((with_reducible refine below_set ?_ ?_ _); rotate_left; (focus (first | (simp; done) | (simp; omega) | omega))) | with_reducible refine below_call ?_ (by assumption))); done) | omega | (simp; omega) | (simp [go_sem]; done) | (simp [go_sem, *]; done))))); clear hK K; (try simp only [Act.put, List.getElem_toArray, List.getElem_cons_zero, List.getElem_cons_succ, List.setIfInBounds_toArray, List.set_cons_zero, List.set_cons_succ]))
    (refine wpAnyH_take (i := 50) (v := ?_) rfl (by kernel_rfl) (by kernel_rfl) (by kernel_rfl) (fun _ _ _ h => h) (Or.inl ⟨by kernel_rfl, ?_⟩) (by assumption) ?_; rotate_left; (focus (intro w hSw; (try dsimp only at hSw); go_simp; (try with_reducible rfl))); (try simp only [Act.put, List.getElem_toArray, List.getElem_cons_zero, List.getElem_cons_succ, List.setIfInBounds_toArray, List.set_cons_zero, List.set_cons_succ]))
    (refine wpAnyH_take (i := 51) (v := ?_) rfl (by kernel_rfl) (by kernel_rfl) (by kernel_rfl) (fun _ _ _ h => h) (Or.inl ⟨by kernel_rfl, ?_⟩) (by assumption) ?_; rotate_left; (focus (intro w hSw; (try dsimp only at hSw); go_simp; (try with_reducible rfl))); (try simp only [Act.put, List.getElem_toArray, List.getElem_cons_zero, List.getElem_cons_succ, List.setIfInBounds_toArray, List.set_cons_zero, List.set_cons_succ]))
    refine wpAnyH_done (by kernel_rfl) ?_ _
    have hbw := hHeld.2.2.2.2.2.2.2.2.2.2.2.2
    clear hHeld cD lD cR lR cY lY cZ lZ cA1 lA1 cB1 lB1 yb
    revert hbw
    generalize wz = w19
    intro hbw
    have D_ := Lib.hid (D.out.call hbw)
    clear D
    have D := D_
    clear D_
    have X_ := Lib.hid (X.out.call hbw)
    clear X
    have X := X_
    clear X_
    have BY_ := Lib.hid (BY.out.call hbw)
    clear BY
    have BY := BY_
    clear BY_
    clear hbw A1 B1 Z Y R M C1 C2 C3 C4 C5
    rcases HCD.out with hcd | ⟨k, hv, ex, hk, en, ey, ec⟩
    · have hcd2 : (cd != 0) = true := by unfold bne; rw [hcd]; rfl
      go_wp2
      go_ret
      exact ⟨rfl, BY.out.2.2⟩
    · subst n2
      subst x
      subst ys
      subst cd
      have h30 := sm_turn hl hk hv
      have cP := fun (W : World) (h : Ints W W.heap.size L m zs) => StrikeMany_any L m d W.heap.size zs (k : Int) 30 W h (Nat.le_refl _) (by omega)
      have cQ := fun (W : World) (h : Ints W W.heap.size L2 m (zs.drop k ++ zs.take k)) => StrikeMany_any L2 m d2 W.heap.size (zs.drop k ++ zs.take k) 0 30 W h (Nat.le_refl _) (by omega)
      have hsl := smL_len zs m (k : Int) 30
      rw [h30.1] at cP
      rw [h30.2.1, h30.2.2] at cQ
      generalize smL zs m (k : Int) 30 = ps at cP cQ hsl
      generalize smN zs m (k : Int) 30 = e1 at cP
      generalize smN (zs.drop k ++ zs.take k) m 0 30 = e2 at cQ
      have hl2 := X.out.2.2.len
      have cY := fun (W : World) (h : Ints W W.heap.size L m zs) (h2 : Ints W W.heap.size L2 m (zs.drop k ++ zs.take k)) => specSameCycle_any L L2 m d m d2 _ _ zs (zs.drop k ++ zs.take k) W h h2 (Nat.le_refl _) (Nat.le_refl _) (by omega) (by omega) (by omega) (by omega)
      rw [cyc_turn hk hv] at cY
      have CP2 := Lib.hid cP
      have CQ2 := Lib.hid cQ
      have CY2 := Lib.hid cY
      clear cP cQ cY h30 HCD
      generalize zs.drop k ++ zs.take k = ys at *
      have cD := D.out.1
      have lD := D.out.2.1
      have cX := X.out.1
      have lX := X.out.2.1
      go_wp2_with fail
      clear cD lD cX lX
      go_at_call 17
      refine (CP2.out _ D.out.2.2).mono ?_
      rintro e wa ⟨La2, ma, da2, rfl, ho, hb⟩
      have hma := ho.len
      have IA := Lib.hid (ho.ints (Nat.le_refl _))
      have D_ := Lib.hid (D.out.call hb)
      clear D
      have D := D_
      clear D_
      have X_ := Lib.hid (X.out.call hb)
      clear X
      have X := X_
      clear X_
      have BY_ := Lib.hid (BY.out.call hb)
      clear BY
      have BY := BY_
      clear BY_
      clear ho hb CP2
      have cD := D.out.1
      have lD := D.out.2.1
      have cX := X.out.1
      have lX := X.out.2.1
      go_wp2_with fail
      clear cD lD cX lX
      go_at_call 17
      refine (CQ2.out _ X.out.2.2).mono ?_
      rintro e wb ⟨Lb2, mb, db2, rfl, ho, hb⟩
      have hmb := ho.len
      have IB := Lib.hid (ho.ints (Nat.le_refl _))
      have IA_ := Lib.hid ((IA.out.below hb).more hb.size)
      clear IA
      have IA := IA_
      clear IA_
      have D_ := Lib.hid (D.out.call hb)
      clear D
      have D := D_
      clear D_
      have X_ := Lib.hid (X.out.call hb)
      clear X
      have X := X_
      clear X_
      have BY_ := Lib.hid (BY.out.call hb)
      clear BY
      have BY := BY_
      clear BY_
      clear ho hb CQ2
      go_wp2_with fail
      go_at_call 8
      refine (f6self_b La2 Lb2 ma mb da2 db2 _ _ ps _ IA.out IB.out (by omega) (by omega)).mono ?_
      rintro e wc ⟨rfl, hb⟩
      have D_ := Lib.hid (D.out.call hb)
      clear D
      have D := D_
      clear D_
      have X_ := Lib.hid (X.out.call hb)
      clear X
      have X := X_
      clear X_
      have BY_ := Lib.hid (BY.out.call hb)
      clear BY
      have BY := BY_
      clear BY_
      clear hb IA IB
      have cD := D.out.1
      have lD := D.out.2.1
      have cX := X.out.1
      have lX := X.out.2.1
      go_wp2_with fail
      clear cD lD cX lX
      go_at_call 16
      refine (CY2.out _ D.out.2.2 X.out.2.2).mono ?_
      rintro e we ⟨rfl, hb⟩
      have BY_ := Lib.hid (BY.out.call hb)
      clear hb
      go_wp2
      go_ret
      exact ⟨rfl, BY_.out.2.2⟩
theorem door_met (os : Os) (args : Array Value) : laidMetH Tryz.prog Rows.fnTurnedWheelsRow.laid ((World.laidAll Tryz.prog os Rows.fnTurnedWheelsRow.laid).forCall (fun _ _ => 0) ⟨#[], args, []⟩).memory :=
  by rw [MakeChecks.laidMetH_plain _ _ _ (by kernel_rfl)]; exact laidMet_laidAll args (by kernel_rfl) (by kernel_rfl)
set_option maxRecDepth 100000 in
theorem lifted (os : Os) (started : os.Started) (H : Type) (enc : TypeId × Value → H) :
    ReturnsInHanded {} Tryz.checked os 3 .any (fun w args => (Rows.fnTurnedWheelsSpec.pre enc Tryz.prog Tryz.f3 [] false w args ∧ laidMetH Tryz.prog Rows.fnTurnedWheelsRow.laid w) ∧ sizedMet enc Tryz.prog Tryz.f3 (OpenSpec.ofChange Rows.fnTurnedWheelsSpec) false w args)
      (Rows.fnTurnedWheelsSpec.post enc Tryz.prog Tryz.f3 false true false false) := by
  refine handed_and_shaped (C := Tryz.checked) (X := fun w _ => laidMetH Tryz.prog Rows.fnTurnedWheelsRow.laid w) (fun _ _ _ hh h => h.of_heap hh) own started (by kernel_rfl) Tryz.func3
    (ChangeSpec.witness_shaped (enc := enc) (C := Tryz.checked) (os := os) (X := fun w _ => laidMetH Tryz.prog Rows.fnTurnedWheelsRow.laid w) false (World.laidAll Tryz.prog os Rows.fnTurnedWheelsRow.laid) #[.slice none 0 0] 8 (World.laidAll_os _ _ _) (World.shaped_of_ZipB (by kernel_rfl) (by kernel_rfl)) (by kernel_rfl) (by kernel_rfl) (by kernel_rfl) (door_met os _)) ?_
  intro W base args ds gs before hval0 hW _ _ hL hsh _
  have hval : ∀ (j : Nat) t v, Tryz.f3.params[j]? = some t → args[j]? = some v → Value.okWide Tryz.prog W .any base t v := hval0
  have hW' := hW
  obtain ⟨p, q, hA0, hV, rfl, hfz, hnd⟩ := hW
  have hA : DataW.TrodAll enc Tryz.prog W 0 (fun _ => true) true Tryz.f3.params.toList args.toList ds p := hA0
  rw [Tryz.params3] at hA hval
  obtain ⟨v0, vs0, d0, ds0, p0, q0, hargs, rfl, rfl, h0, r0⟩ := trodAll_cons hA
  obtain ⟨rfl, rfl, rfl⟩ := trodAll_nil r0
  obtain rfl : args = #[v0] := by cases args; simp_all
  obtain ⟨rfl, rfl⟩ := trodVars_none hV
  have k0 := h0
  have lt0 : ∀ x ∈ p0, x.block < W.heap.size := by obtain ⟨m, hm⟩ := k0; exact DataW.trod_lt m _ _ _ hm
  obtain ⟨A0, l0, c0, rfl, R0⟩ := open_Bytes (hval 0 22 v0 rfl rfl) h0
  clear hA0 hval0
  refine (walk A0 l0 c0 W R0 (lays hL hsh)).mono fun e W' ⟨he, bel⟩ => ?_
  subst he
  exact ⟨_, rfl, _, _, _, [], _, [], hW', trodAll_mk1 (shut_bool Tryz.underlying4 _), (trodAll_cons_mk (Below.trod laidOut (by kernel_rfl) (of_decide_eq_true (by kernel_rfl)) k0 bel lt0) trodAll_mk0), rfl, bel.frame _, fun h => by cases h⟩
theorem over : Rows.fnTurnedWheelsRow.holds Tryz.pinned (OpenSpec.ofChange Rows.fnTurnedWheelsSpec) :=
  OpenClaim.holds_of_wide 3 Tryz.f3 rfl rfl rfl rfl rfl rfl rfl ⟨rfl, rfl, rfl, rfl, rfl⟩ rfl rfl rfl rfl rfl (by kernel_rfl) Tryz.func3 (by kernel_rfl)
    (of_decide_eq_true (by kernel_rfl)) (by unfold Func.isWrapper; first | (rw [if_pos (by decide +kernel)]; kernel_rfl) | (rw [if_neg (by decide +kernel)]; exact ⟨rfl, rfl⟩))
    (fun os started H enc _ => lifted os started H enc)
theorem proved : Rows.FnTurnedWheelsCardSaid :=
  Claim7.holds_tied_plain_at .later [] [.data, .data, .data, .data, .sentinel, .sentinel, .pinned] true Rows.fnTurnedWheelsCard.stood.harness true
    over (fun _ h => by cases h) (by kernel_rfl) (fun _ h => by cases h) fnTurnedWheels_row_tie rfl ⟨rfl, rfl⟩ (by kernel_rfl) rfl
    (fun f fn hf hfn => by
      obtain rfl : f = 3 := Option.some.inj ((show Tryz.prog.funcNamed Rows.fnTurnedWheelsRow.func = some 3 by kernel_rfl).symm.trans hf) |>.symm
      obtain rfl : fn = Tryz.f3 := (Option.some.inj (Tryz.func3.symm.trans hfn)).symm
      exact ⟨by kernel_rfl, fun j t ht => by
        rw [Tryz.params3] at ht
        have hm : t ∈ [22] := by simpa using Array.mem_of_getElem? ht
        have hall : ([22].all fun u => !Tryz.prog.wantsStandIn u) = true := by kernel_rfl
        exact (show Tryz.prog.wantsStandIn t = false by simpa using List.all_eq_true.1 hall t hm)⟩)
    (by kernel_rfl)
#print axioms proved
end Go.Proofs.YtajcbppndkkbpaaGreatDoor.fnTurnedWheels
