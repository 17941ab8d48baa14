/- Contracts of the texts of perpetual works, the program's and the reference's. No conditions but that a cam has at most 2^20 levels, and that the library's table of powers of ten is as its text lays it. -/
import Derived.Test.YthicmkilhakdiaaDoorTextWheel
import Derived.Test.YthicmkilhakdiaaDoorPerpOk2
import Derived.Test.YthicmkilhakdiaaDoorShelfTab
import Derived.Lib.AppendIntMem
import Derived.BigQuiet
import Derived.Deep.RegionHeld3
namespace Go.Proofs.YthicmkilhakdiaaDoor
open Go.RowKit
set_option linter.unusedVariables false
set_option linter.unusedSimpArgs false
theorem vPerp_yes {zs : List Int} {n : Nat} {mo te ix da we wd : Int} (h : vPerp zs n mo te ix da we wd = true) :
    vCam zs = true ∧ 1 ≤ mo ∧ (n : Int).tmod mo = 0 ∧ (1 ≤ te ∧ te ≤ 60) ∧ (0 ≤ ix ∧ ix ≤ (n : Int) - 1) ∧ (1 ≤ da ∧ da ≤ te) ∧ (1 ≤ we ∧ we ≤ 12) ∧ 1 ≤ wd ∧ wd ≤ we := by
  simp only [vPerp, Bool.and_eq_true, decide_eq_true_eq] at h
  obtain ⟨h1, h2, h3, h4, _, h5, h6, h7, h8⟩ := h
  exact ⟨h1, h2, h3, inB_yes h4, inB_yes h5, inB_yes h6, inB_yes h7, inB_yes h8⟩
set_option maxHeartbeats 4000000 in
theorem l17Text_any (A : Option Addr) (n c B : Nat) (zs : List Int) (w : World) (h : Ints w B A n zs) (hB : B ≤ w.heap.size) (hn : n ≤ 1048576) (hz : ∀ j, j < zs.length → 0 ≤ zs.getD j 0 ∧ zs.getD j 0 < 1000) :
    Calls Tryd.prog 29 #[.slice A n c] w fun e w' => e = .returned (.string ⟨(txK [32] zs n).toArray⟩) ∧ Below w.heap.size w w' := by
  have HL := Lib.hid h.len
  have H := Lib.hid (h.more hB)
  have HZ := Lib.hid hz
  clear h hB hz
  go_enter Tryd.func29, Tryd.ntmps29
  go_wp2
  go_loopw [3, 4] (fun s t wr => ∃ (k : Nat) (S : ByteArray), t = .int .i64 k ∧ k ≤ n ∧ s = .string S ∧ Hid (S = ⟨(txK [32] zs k).toArray⟩) ∧ Below w.heap.size w wr) (fun _ t _ => n - (intOf t).toNat)
  case atStart => exact ⟨0, ⟨#[]⟩, rfl, Nat.zero_le _, rfl, Lib.hid rfl, Below.refl _ _⟩
  case round =>
    obtain ⟨k, S, rfl, hk, rfl, hS, hB⟩ := hrel
    have zr := hB.size
    by_cases hlt : k < n
    · obtain ⟨bb, off, rfl, hbl, hc⟩ := H.out.at_ hlt
      have hzk := HZ.out k (by rw [HL.out]; exact hlt)
      have hcr : wr.cell? ⟨bb, off + k, none⟩ = some (.int .i64 (zs.getD k 0)) := (hB.cell (by simpa using hbl)).trans hc
      have hT1 := txK_one [32] zs
      have hT2 := @txK_more [32] zs k
      obtain ⟨x, hx⟩ := Int.eq_ofNat_of_zero_le hzk.1
      have hd : dd (zs.getD k 0) = Lib.decDigits x := by unfold dd; rw [hx]; rfl
      have hs1 : S.size ≤ 4 * k := by
        rw [hS.out]
        have := txK_len [32] zs (by simp) HZ.out k (by rw [HL.out]; exact hk)
        simpa [ByteArray.size] using this
      have hs2 : (Lib.decDigits x).length ≤ 3 := by rw [← hd]; exact dd_len _ hzk.1 hzk.2
      have f1 : ¬ (9223372036854775807 < S.size + (Lib.decDigits x).length) := by omega
      have f2 : ¬ (9223372036854775807 < S.size + 1) := by omega
      have f3 : ¬ (9223372036854775807 < S.size + 1 + (Lib.decDigits x).length) := by omega
      have HT := Lib.hid (And.intro hT1 (And.intro hT2 hd))
      rw [hx] at hcr hzk
      have HB := Lib.hid hB
      have i0 : (0 : Int) ≤ (k : Int) := Int.natCast_nonneg _
      have i1 : (k : Int) < (n : Int) := by omega
      clear hx hc hB hT1 hT2 hd
      by_cases hk0 : k = 0
      · have j1 : ¬ ((0 : Int) < (k : Int)) := by omega
        have HS := Lib.hid (show S ++ ⟨(Lib.decDigits x).toArray⟩ = ⟨(txK [32] zs (k + 1)).toArray⟩ by
          have hd := HT.out.2.2
          subst hk0
          rw [hS.out, str_app, HT.out.1, hd]; rfl)
        have HK0 := Lib.hid hk0
        clear hk0
        go_wp2_with (first | (go_at_call 35; refine (l01Dec_any x _ (by omega)).mono ?_; rintro e w2 ⟨rfl, hb2⟩; have HB2 := Lib.hid (HB.out.trans (hb2.mono (by omega))); clear hb2) | fail)
        go_roundw
        case rel => exact ⟨k + 1, _, by go_num, by omega, rfl, HS, HB2.out⟩
        case measure => simp [intOf]; omega
      · have j1 : (0 : Int) < (k : Int) := by omega
        have HS := Lib.hid (show S ++ ⟨#[32]⟩ ++ ⟨(Lib.decDigits x).toArray⟩ = ⟨(txK [32] zs (k + 1)).toArray⟩ by
          rw [hS.out, show (⟨#[32]⟩ : ByteArray) = ⟨([32] : List UInt8).toArray⟩ from rfl, str_app, str_app, HT.out.2.1 (by omega), HT.out.2.2])
        go_wp2_with (first | (go_at_call 35; refine (l01Dec_any x _ (by omega)).mono ?_; rintro e w2 ⟨rfl, hb2⟩; have HB2 := Lib.hid (HB.out.trans (hb2.mono (by omega))); clear hb2) | fail)
        go_roundw
        case rel => exact ⟨k + 1, _, by go_num, by omega, rfl, HS, HB2.out⟩
        case measure => simp [intOf]; omega
    · have HE := Lib.hid (show k = n by omega)
      have HB := Lib.hid hB
      clear hB
      go_wp2
      go_ret
      exact ⟨str_eq (by rw [hS.out, HE.out]), HB.out⟩
set_option maxHeartbeats 1000000 in
theorem shownMonth_any (S : Value) (k : Nat) (mo te da we wd : Int) (w : World) (m1 : 1 ≤ mo) (m2 : mo ≤ 9223372036854775807) (hk : (k : Int) ≤ 1048576) :
    Calls Tryd.prog 21 #[.agg #[S, .int .i64 mo, .int .i64 te, .int .i64 (k : Int), .int .i64 da, .int .i64 we, .int .i64 wd]] w fun e w' => e = .returned (.int .i64 ((k : Int) % mo + 1)) ∧ Below w.heap.size w w' := by
  have t1 : (k : Int).tmod mo = (k : Int) % mo := Int.tmod_eq_emod_of_nonneg (by omega)
  have r0 := Int.emod_nonneg (k : Int) (show mo ≠ 0 by omega)
  have r1 := Int.emod_lt_of_pos (k : Int) (show 0 < mo by omega)
  have r2 : (k : Int) % mo ≤ k := by rw [Int.emod_def]; have := Int.mul_nonneg (show 0 ≤ mo by omega) (Int.ediv_nonneg (show (0 : Int) ≤ k by omega) (show 0 ≤ mo by omega)); omega
  have n0 : (mo == 0) = false := by rw [beq_eq_false_iff_ne]; omega
  have n2 : ¬ (mo = 0) := by omega
  generalize (k : Int) % mo = r at *
  go_enter Tryd.func21, Tryd.ntmps21
  go_wp2
  first | (go_ret; exact ⟨rfl, by (repeat (first | with_reducible exact Below.refl _ _ | with_reducible refine below_alloc ?_ _ | with_reducible refine below_drewN ?_ _ | with_reducible refine Below.drew ?_ | ((with_reducible refine below_set ?_ ?_ _); rotate_left; (focus (first | (simp; done) | (simp; omega) | omega))) | with_reducible refine below_call ?_ (by assumption)))⟩) | (go_quiet (fail); go_wp2; go_ret; exact ⟨rfl, by (repeat (first | with_reducible exact Below.refl _ _ | with_reducible refine below_alloc ?_ _ | with_reducible refine below_drewN ?_ _ | with_reducible refine Below.drew ?_ | ((with_reducible refine below_set ?_ ?_ _); rotate_left; (focus (first | (simp; done) | (simp; omega) | omega))) | with_reducible refine below_call ?_ (by assumption)))⟩)
/-- the table of powers of ten stands in every world from W on -/
def Pow (W : World) : Prop := ∀ w', Below W.heap.size W w' → Lib.TabIs Tryd.prog w' "internal/strconv.uint64pow10" .u64 Lib.pow10Tab
set_option maxHeartbeats 400000 in
theorem Decimal_any (z : Int) (w : World) (h0 : 0 ≤ z) (h1 : z < 1000) (ht : Lib.TabIs Tryd.prog w "internal/strconv.uint64pow10" .u64 Lib.pow10Tab) :
    Calls Tryd.prog 20 #[.int .i64 z] w fun e w' => e = .returned (.string ⟨(dd z).toArray⟩) ∧ Below w.heap.size w w' := by
  have hi : Lib.itoa z = dd z := by unfold Lib.itoa dd; rw [if_neg (by omega)]
  have hc := Tryd.strconv_FormatInt_10 z (by omega) (by omega) w ht
  rw [hi] at hc
  have HC := Lib.hid hc
  clear hc ht hi
  go_enter Tryd.func20, Tryd.ntmps20
  go_wp2_with (first | (go_at_call 33; refine HC.out.mono ?_; rintro e w' ⟨rfl, k, os, rfl⟩) | fail)
  go_ret
  exact ⟨rfl, Lib.below_grow _ w (Nat.le_refl _) _ _⟩
/-- the text of a work, empty where it is not valid -/
def ptx (zs : List Int) (n : Nat) (mo te ix da we wd : Int) : List UInt8 := if vPerp zs n mo te ix da we wd then txK [32] [ix % mo + 1, da, wd, ix] 4 else []
theorem txK4 (a b c d : Int) : txK [32] [a, b, c, d] 4 = dd a ++ [32] ++ dd b ++ [32] ++ dd c ++ [32] ++ dd d := by
  rw [txK_more _ _ (by omega), txK_more _ _ (by omega), txK_more _ _ (by omega), txK_one]
  simp
theorem month_facts {n : Nat} {mo ix : Int} (hn1 : 1 ≤ n) (hn : n ≤ 260) (m1 : 1 ≤ mo) (hm : (n : Int).tmod mo = 0) (i0 : 0 ≤ ix) (i1 : ix ≤ (n : Int) - 1) : mo ≤ 260 ∧ 0 ≤ ix % mo ∧ ix % mo < 260 := by
  rw [Int.tmod_eq_emod_of_nonneg (by omega)] at hm
  have h1 := Int.emod_nonneg ix (show mo ≠ 0 by omega)
  have h2 := Int.emod_lt_of_pos ix (show 0 < mo by omega)
  have h3 : mo ≤ n := by
    by_cases h : mo ≤ n
    · exact h
    · rw [Int.emod_eq_of_lt (by omega) (by omega)] at hm; omega
  omega
theorem lit4 (w : World) (a b c d : Int) (T : TypeId) : Ints (w.alloc (.cells #[.int .i64 a, .int .i64 b, .int .i64 c, .int .i64 d] T)) (w.alloc (.cells #[.int .i64 a, .int .i64 b, .int .i64 c, .int .i64 d] T)).heap.size (some ⟨w.heap.size, 0, none⟩) 4 [a, b, c, d] :=
  ⟨rfl, fun _ => ⟨_, 0, rfl, by simp, fun j hj => by
    match j, hj with
    | 0, _ => simp
    | 1, _ => simp
    | 2, _ => simp
    | 3, _ => simp⟩⟩
set_option maxHeartbeats 4000000 in
theorem l18Text_any (g : Nat) (mo ix da wd : Int) (w : World) (m1 : 1 ≤ mo) (i0 : 0 ≤ ix) (i1 : ix ≤ 1000) (hr : ix % mo < 260) (a1 : 0 ≤ da) (a2 : da ≤ 60) (w1 : 0 ≤ wd) (w2 : wd ≤ 12) (i2 : ix < 1000)
    (q1 : w.cell? ⟨g, 1, none⟩ = some (.int .i64 mo)) (q3 : w.cell? ⟨g, 3, none⟩ = some (.int .i64 ix)) (q4 : w.cell? ⟨g, 4, none⟩ = some (.int .i64 da)) (q6 : w.cell? ⟨g, 6, none⟩ = some (.int .i64 wd)) (hg : g < w.heap.size) :
    Calls Tryd.prog 17 #[.pointer (some ⟨g, 0, none⟩)] w fun e w' => e = .returned (.string ⟨(txK [32] [ix % mo + 1, da, wd, ix] 4).toArray⟩) ∧ Below w.heap.size w w' := by
  have t1 : ix.tmod mo = ix % mo := Int.tmod_eq_emod_of_nonneg (by omega)
  have r0 := Int.emod_nonneg ix (show mo ≠ 0 by omega)
  have n0 : (mo == 0) = false := by rw [beq_eq_false_iff_ne]; omega
  have n2 : ¬ (mo = 0) := by omega
  generalize ix % mo = r at *
  have p1 : IntKind.i64.wrap r = r := IntWalk.i64_in _ (by omega)
  have p2 : IntKind.i64.wrap (r + 1) = r + 1 := IntWalk.i64_in _ (by omega)
  have cT := fun (A : Option Addr) (c : Nat) (W : World) (h : Ints W W.heap.size A 4 [r + 1, da, wd, ix]) => l17Text_any A 4 c W.heap.size [r + 1, da, wd, ix] W h (Nat.le_refl _) (by omega) (fun j hj => by
    match j, hj with
    | 0, _ => simp; omega
    | 1, _ => simp; omega
    | 2, _ => simp; omega
    | 3, _ => simp; omega)
  generalize txK [32] [r + 1, da, wd, ix] 4 = T at *
  have CT := Lib.hid cT
  have yr := Below.refl w.heap.size w
  clear cT r0 hr
  go_enter Tryd.func17, Tryd.ntmps17
  go_wp2
  go_region_held3 (fun w' => w'.cell? ⟨g, 1, none⟩ = some (.int .i64 mo) ∧ w'.cell? ⟨g, 3, none⟩ = some (.int .i64 ix) ∧ w'.cell? ⟨g, 4, none⟩ = some (.int .i64 da) ∧ w'.cell? ⟨g, 6, none⟩ = some (.int .i64 wd) ∧ g < w'.heap.size ∧ Below w.heap.size w w')
    (first | ((try go_split_ands); (try dsimp only); refine ⟨?_, ?_, ?_, ?_, ?_, ?_⟩ <;> first | (exact cell_call (by assumption) (by assumption) (by assumption)) | (exact lt_call (by assumption) (by assumption)) | (exact below_call' (by assumption) (by assumption)) | (exact Below.drew (by assumption)) | (with_reducible assumption) | assumption | (exact (World.cell?_alloc_lt _ _ _ (by assumption)).trans (by assumption)) | (simp; omega) | ((repeat (first | with_reducible exact Below.refl _ _ | with_reducible refine below_alloc ?_ _ | with_reducible refine below_drewN ?_ _ | with_reducible refine Below.drew ?_ | ((with_reducible refine below_set ?_ ?_ _); rotate_left; (focus (first | (simp; done) | (simp; omega) | omega))) | with_reducible refine below_call ?_ (by assumption))); done) | omega))
    (first
      | (go_at_call 29; go_split_ands; refine (CT.out _ _ _ (by first | exact lit4 _ _ _ _ _ _ | exact Ints.drew (lit4 _ _ _ _ _ _))).mono ?_; rintro e w9 ⟨rfl, hb9⟩))
  go_split_ands
  go_wp2
  go_ret
  exact ⟨rfl, by assumption⟩
set_option maxHeartbeats 4000000 in
theorem specPerpetualText_any (A : Option Addr) (n c B : Nat) (zs : List Int) (mo te ix da we wd : Int) (w : World) (h : Ints w B A n zs) (hB : B ≤ w.heap.size) (hn : n ≤ 1048576) :
    Calls Tryd.prog 6 #[.agg #[.slice A n c, .int .i64 mo, .int .i64 te, .int .i64 ix, .int .i64 da, .int .i64 we, .int .i64 wd]] w fun e w' => e = .returned (.string ⟨(ptx zs n mo te ix da we wd).toArray⟩) ∧ Below w.heap.size w w' := by
  have hl := h.len
  have H := Lib.hid (h.more hB)
  clear h
  have hO := l18Ok_any A n c w.heap.size w.heap.size zs mo te ix da we wd (w.alloc (.cells #[.slice A n c, .int .i64 mo, .int .i64 te, .int .i64 ix, .int .i64 da, .int .i64 we, .int .i64 wd] 27)) (H.out.alloc (Nat.le_refl _) _) (by simp) hn (by simp) (by simp) (by simp) (by simp) (by simp) (by simp) (by simp)
  cases hv : vPerp zs n mo te ix da we wd
  · rw [hv] at hO
    rw [show ptx zs n mo te ix da we wd = [] by simp [ptx, hv]]
    have HO := Lib.hid hO
    clear hO
    go_enter Tryd.func6, Tryd.ntmps6
    go_wp2_with (first | (go_at_call 16; refine HO.out.mono ?_; rintro e w1 ⟨rfl, nq, rfl⟩) | fail)
    go_ret
    exact ⟨rfl, by (repeat (first | with_reducible exact Below.refl _ _ | with_reducible refine below_alloc ?_ _ | with_reducible refine below_drewN ?_ _ | with_reducible refine Below.drew ?_ | ((with_reducible refine below_set ?_ ?_ _); rotate_left; (focus (first | (simp; done) | (simp; omega) | omega))) | with_reducible refine below_call ?_ (by assumption)))⟩
  · obtain ⟨v1, v2, v3, v4, v5, v6, v7, v8, v9⟩ := vPerp_yes hv
    rw [hv] at hO
    rw [show ptx zs n mo te ix da we wd = txK [32] [ix % mo + 1, da, wd, ix] 4 by simp [ptx, hv]]
    have hc := vCam_yes v1
    rw [hl] at hc
    have hmf := month_facts hc.2.1 hc.2.2 v2 v3 v5.1 v5.2
    have HT := Lib.hid (fun (W : World) => l18Text_any w.heap.size mo ix da wd W v2 v5.1 (by omega) hmf.2.2 (by omega) (by omega) (by omega) (by omega) (by omega))
    have HO := Lib.hid hO
    clear hO hc v1 v3 hmf
    go_enter Tryd.func6, Tryd.ntmps6
    go_wp2_with (first | (go_at_call 16; refine HO.out.mono ?_; rintro e w1 ⟨rfl, nq, rfl⟩) | (go_at_call 17; refine (HT.out _ (by simp) (by simp) (by simp) (by simp) (by simp)).mono ?_; rintro e w2 ⟨rfl, hb2⟩) | fail)
    go_ret
    exact ⟨rfl, by (repeat (first | with_reducible exact Below.refl _ _ | with_reducible refine below_alloc ?_ _ | with_reducible refine below_drewN ?_ _ | with_reducible refine Below.drew ?_ | ((with_reducible refine below_set ?_ ?_ _); rotate_left; (focus (first | (simp; done) | (simp; omega) | omega))) | with_reducible refine below_call ?_ (by assumption)))⟩
end Go.Proofs.YthicmkilhakdiaaDoor
