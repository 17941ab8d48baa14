/- Contracts of the texts of count wheels, the program's (a join of words) and the reference's. No conditions but that a wheel has at most 2^20 gaps. -/
import Derived.Test.YtajcbppndkkbpaaGreatDoorDec
import Derived.Test.YtajcbppndkkbpaaGreatDoorWheel
import Derived.Lib.Join
namespace Go.Proofs.YtajcbppndkkbpaaGreatDoor
open Go.RowKit
set_option linter.unusedVariables false
set_option linter.unusedSimpArgs false
def dd (z : Int) : List UInt8 := Lib.decDigits z.toNat
/-- the text of the first k numbers, a sign between each two -/
def txK (sep : List UInt8) (zs : List Int) : Nat → List UInt8
  | 0 => []
  | k + 1 => if k = 0 then dd (zs.getD 0 0) else txK sep zs k ++ sep ++ dd (zs.getD k 0)
theorem txK_one (sep : List UInt8) (zs : List Int) : txK sep zs 1 = dd (zs.getD 0 0) := by simp [txK]
theorem txK_more (sep : List UInt8) (zs : List Int) {k : Nat} (hk : 0 < k) : txK sep zs (k + 1) = txK sep zs k ++ sep ++ dd (zs.getD k 0) := by
  rw [txK, if_neg (by omega)]
theorem join_snoc (sep : List UInt8) (x : List UInt8) (r : List (List UInt8)) (y : List UInt8) : Lib.join ((x :: r) ++ [y]) sep = Lib.join (x :: r) sep ++ sep ++ y := by
  rw [List.cons_append, Lib.join_cons, Lib.join_cons]
  simp [Lib.joinTail]
theorem txK_join (sep : List UInt8) (zs : List Int) : ∀ k, 0 < k → k ≤ zs.length → txK sep zs k = Lib.join ((zs.take k).map dd) sep
  | 1, _, h => by
    obtain ⟨z, r, rfl⟩ : ∃ z r, zs = z :: r := by cases zs with
      | nil => simp at h
      | cons z r => exact ⟨z, r, rfl⟩
    simp [txK, Lib.join_one]
  | k + 2, _, h => by
    have ih := txK_join sep zs (k + 1) (by omega) (by omega)
    have hk : k + 1 < zs.length := by omega
    rw [txK_more sep zs (by omega), ih, List.take_succ_eq_append_getElem hk, List.map_append, getD_of hk]
    obtain ⟨z, r, e⟩ : ∃ z r, zs.take (k + 1) = z :: r := by
      cases hz : zs.take (k + 1) with
      | nil =>
        have h9 := List.length_take (i := k + 1) (l := zs)
        rw [hz] at h9
        simp only [List.length_nil] at h9
        omega
      | cons z r => exact ⟨z, r, rfl⟩
    rw [e]
    exact (join_snoc sep (dd z) (r.map dd) (dd zs[k + 1])).symm
theorem dd_len (z : Int) (h1 : 0 ≤ z) (h2 : z < 1000) : (dd z).length ≤ 3 := by
  unfold dd
  obtain ⟨n, rfl⟩ := Int.eq_ofNat_of_zero_le h1
  rw [Int.toNat_natCast]
  have hn : n < 1000 := by omega
  clear h1 h2
  rw [Lib.decDigits]
  split
  · simp
  · rw [Lib.decDigits]
    split
    · simp
    · rw [Lib.decDigits, dif_pos (by omega)]; simp
theorem txK_len (sep : List UInt8) (zs : List Int) (hs : sep.length ≤ 1) (hz : ∀ j, j < zs.length → 0 ≤ zs.getD j 0 ∧ zs.getD j 0 < 1000) : ∀ k, k ≤ zs.length → (txK sep zs k).length ≤ 4 * k
  | 0, _ => by simp [txK]
  | k + 1, h => by
    have h1 := dd_len (zs.getD k 0) (hz k (by omega)).1 (hz k (by omega)).2
    by_cases hk : k = 0
    · subst hk; rw [txK_one]; omega
    · have := txK_len sep zs hs hz k (by omega)
      rw [txK_more sep zs (by omega)]
      simp only [List.length_append]; omega
theorem info_str : (Tryz.prog.info? 9).map (fun i => (i.zero, i.size, i.bytes)) = some (some (.string ⟨#[]⟩), 1, 16) := by kernel_rfl
/-- append of one string to a row of strings of the call's own -/
theorem wpList_appT {ops : Array Oper} {rest : List Oper} {o : Oper} {a : Act} {Q : Exit → Act → World → Prop} (hgd : o.guard = none) (s x : Operand)
    (ho : o.op = .call { callee := .builtin .append, args := #[s, x], argTypes := #[44, 44] })
    (w : World) (base : Nat) (A : Option Addr) (n c : Nat) (xs : List Value) (hs : a.eval s = .slice A n c) (hown : w.ownsRow base 9 1 (.slice A n c) n xs) (g : Nat) (hx : a.eval x = .slice (some ⟨g, 0, none⟩) 1 1) (v : ByteArray)
    (hcell : w.cell? ⟨g, 0, none⟩ = some (.string v)) (hn : n ≤ 100000000) (hb : base ≤ w.heap.size)
    (h : ∀ g' c' w', w'.ownsRow base 9 1 (.slice (some ⟨g', 0, none⟩) (n + 1) c') (n + 1) (xs ++ [.string v]) → Below base w w' → wpList Tryz.prog ops Q rest (a.put o.dst (.slice (some ⟨g', 0, none⟩) (n + 1) c')) w') : wpList Tryz.prog ops Q (o :: rest) a w := by
  obtain ⟨i0, hi, hz0, hz1, hz2⟩ := info_parts info_str
  refine wpList_append_own_at (P := Tryz.prog) w hgd s x 44 ho base 9 i0 (.string ⟨#[]⟩) 1 16 Tryz.underlying44 hi hz0 hz1 hz2 rfl (by omega) (.slice A n c) n xs hs hown ⟨g, 0, none⟩ 1 1 [.string v] hx rfl
    (fun j u hj => ?_) (by simp [Value.oneCell']) (by simp only [maxLen]; omega) (by omega) hb (fun v' w' h1 h2 _ _ => ?_)
  · match j, hj with
    | 0, hj =>
      simp at hj
      subst hj
      simpa [Addr.add] using hcell
  · rcases h1.2 with ⟨_, h0⟩ | ⟨g', cap, cur, e, _⟩
    · omega
    · subst e
      refine h g' _ w' h1 ((Below.refl base w).grown h2 hb (fun k hk => ?_))
      rcases hown.2 with ⟨e, _⟩ | ⟨g2, cap2, cur2, e, hg', _⟩
      · rw [e] at hk; simp [Value.ownBlock] at hk
      · rw [e] at hk; simp [Value.ownBlock] at hk; omega
/-- the text of a wheel, empty where it is not valid -/
def wtx (zs : List Int) : List UInt8 := if vWheel zs then txK [45] zs zs.length else []
theorem str_eq {a b : ByteArray} (h : a = b) : Ending.returned (.string a) = Ending.returned (.string b) := by rw [h]
set_option maxHeartbeats 4000000 in
theorem l20Text_any (A : Option Addr) (n c B : Nat) (zs : List Int) (w : World) (h : Ints w B A n zs) (hB : B ≤ w.heap.size) (hn : n ≤ 1048576) (hz : ∀ j, j < zs.length → 0 ≤ zs.getD j 0 ∧ zs.getD j 0 < 1000) :
    Calls Tryz.prog 30 #[.agg #[.slice A n c]] w fun e w' => e = .returned (.string ⟨(txK [45] zs n).toArray⟩) ∧ Below w.heap.size w w' := by
  have HL := Lib.hid h.len
  have H := Lib.hid (h.more hB)
  have HZ := Lib.hid hz
  clear h hB hz
  go_enter Tryz.func30, Tryz.ntmps30
  go_wp2
  go_loopw [3, 4] (fun s t wr => ∃ (k : Nat) (S : ByteArray), t = .int .i64 k ∧ k ≤ n ∧ s = .string S ∧ Hid (S = ⟨(txK [45] zs k).toArray⟩) ∧ wr.cell? ⟨w.heap.size, 0, none⟩ = some (.slice A n c) ∧ w.heap.size < wr.heap.size ∧ Below w.heap.size w wr) (fun _ t _ => n - (intOf t).toNat)
  case atStart => exact ⟨0, ⟨#[]⟩, rfl, Nat.zero_le _, rfl, Lib.hid rfl, by simp, by simp, (Below.refl _ _).alloc (Nat.le_refl _) _⟩
  case round =>
    obtain ⟨k, S, rfl, hk, rfl, hS, hbx, hlt0, hB⟩ := hrel
    by_cases hlt : k < n
    · obtain ⟨bb, off, rfl, hbl, hc⟩ := H.out.at_ hlt
      have hzk := HZ.out k (by rw [HL.out]; exact hlt)
      have hcr : wr.cell? ⟨bb, off + k, none⟩ = some (.int .i64 (zs.getD k 0)) := (hB.cell (by simpa using hbl)).trans hc
      have hT1 := txK_one [45] zs
      have hT2 := @txK_more [45] zs k
      obtain ⟨x, hx⟩ := Int.eq_ofNat_of_zero_le hzk.1
      have hd : dd (zs.getD k 0) = Lib.decDigits x := by unfold dd; rw [hx]; rfl
      have hs1 : S.size ≤ 4 * k := by
        rw [hS.out]
        have := txK_len [45] zs (by simp) HZ.out k (by rw [HL.out]; exact hk)
        simpa [ByteArray.size] using this
      have hs2 : (Lib.decDigits x).length ≤ 3 := by rw [← hd]; exact dd_len _ hzk.1 hzk.2
      have f1 : ¬ (9223372036854775807 < S.size + (Lib.decDigits x).length) := by omega
      have f2 : ¬ (9223372036854775807 < S.size + 1) := by omega
      have f3 : ¬ (9223372036854775807 < S.size + 1 + (Lib.decDigits x).length) := by omega
      have HT := Lib.hid (And.intro hT1 (And.intro hT2 hd))
      rw [hx] at hcr hzk
      have HB := Lib.hid hB
      have i0 : (0 : Int) ≤ (k : Int) := Int.natCast_nonneg _
      have i1 : (k : Int) < (n : Int) := by omega
      clear hx hc hB hT1 hT2 hd
      by_cases hk0 : k = 0
      · have j1 : ¬ ((0 : Int) < (k : Int)) := by omega
        have HS := Lib.hid (show S ++ ⟨(Lib.decDigits x).toArray⟩ = ⟨(txK [45] zs (k + 1)).toArray⟩ by
          have hd := HT.out.2.2
          subst hk0
          rw [hS.out, str_app, HT.out.1, hd]; rfl)
        have HK0 := Lib.hid hk0
        clear hk0
        go_wp2_with (first | (go_at_call 54; refine (l01Dec_any x _ (by omega)).mono ?_; rintro e w2 ⟨rfl, hb2⟩; have hbx2 := cell_call hb2 (by simpa using hlt0) hbx; have hlt2 := lt_call hb2 hlt0; have HB2 := Lib.hid (HB.out.trans (hb2.mono (by omega))); clear hb2) | fail)
        go_roundw
        case rel => exact ⟨k + 1, _, by go_num, by omega, rfl, HS, hbx2, hlt2, HB2.out⟩
        case measure => simp [intOf]; omega
      · have j1 : (0 : Int) < (k : Int) := by omega
        have HS := Lib.hid (show S ++ ⟨#[45]⟩ ++ ⟨(Lib.decDigits x).toArray⟩ = ⟨(txK [45] zs (k + 1)).toArray⟩ by
          rw [hS.out, show (⟨#[45]⟩ : ByteArray) = ⟨([45] : List UInt8).toArray⟩ from rfl, str_app, str_app, HT.out.2.1 (by omega), HT.out.2.2])
        go_wp2_with (first | (go_at_call 54; refine (l01Dec_any x _ (by omega)).mono ?_; rintro e w2 ⟨rfl, hb2⟩; have hbx2 := cell_call hb2 (by simpa using hlt0) hbx; have hlt2 := lt_call hb2 hlt0; have HB2 := Lib.hid (HB.out.trans (hb2.mono (by omega))); clear hb2) | fail)
        go_roundw
        case rel => exact ⟨k + 1, _, by go_num, by omega, rfl, HS, hbx2, hlt2, HB2.out⟩
        case measure => simp [intOf]; omega
    · have HE := Lib.hid (show k = n by omega)
      have HB := Lib.hid hB
      clear hB
      go_wp2
      go_ret
      exact ⟨str_eq (by rw [hS.out, HE.out]), HB.out⟩
set_option maxHeartbeats 2000000 in
theorem specCountWheelText_any (A : Option Addr) (n c B : Nat) (zs : List Int) (w : World) (h : Ints w B A n zs) (hB : B ≤ w.heap.size) (hn : n ≤ 1048576) :
    Calls Tryz.prog 14 #[.agg #[.slice A n c]] w fun e w' => e = .returned (.string ⟨(wtx zs).toArray⟩) ∧ Below w.heap.size w w' := by
  have hl := h.len
  have H := Lib.hid (h.more hB)
  clear h
  cases hv : vWheel zs
  · rw [show wtx zs = [] by simp [wtx, hv]]
    go_enter Tryz.func14, Tryz.ntmps14
    go_wp2_with fail
    refine (l20Ok_any _ _ _ _ zs _ (by exact Ints.below (H.out) (by (repeat (first | with_reducible exact Below.refl _ _ | with_reducible refine below_alloc ?_ _ | with_reducible refine below_drewN ?_ _ | with_reducible refine Below.drew ?_ | ((with_reducible refine below_set ?_ ?_ _); rotate_left; (focus (first | (simp; done) | (simp; omega) | omega))) | with_reducible refine below_call ?_ (by assumption))))) (by exact Below.size (B := w.heap.size) (w := w) (by (repeat (first | with_reducible exact Below.refl _ _ | with_reducible refine below_alloc ?_ _ | with_reducible refine below_drewN ?_ _ | with_reducible refine Below.drew ?_ | ((with_reducible refine below_set ?_ ?_ _); rotate_left; (focus (first | (simp; done) | (simp; omega) | omega))) | with_reducible refine below_call ?_ (by assumption))))) hn).mono ?_
    rintro e w1 ⟨rfl, hb1⟩
    obtain ⟨hc1, hf1, hs1⟩ := bcell hb1
    (try (refine cut_ (p := w.heap.size < w1.heap.size) ?_ ?_; (focus (refine hs1 _ ?_; first | assumption | omega | (simp [go_sem]; done) | (simp [go_sem]; omega))); intro hl1a))
    (try (refine cut_ (p := w.heap.size + 1 < w1.heap.size) ?_ ?_; (focus (refine hs1 _ ?_; first | assumption | omega | (simp [go_sem]; done) | (simp [go_sem]; omega))); intro hl1b))
    (try (refine cut_ (p := w.heap.size + 1 + 1 < w1.heap.size) ?_ ?_; (focus (refine hs1 _ ?_; first | assumption | omega | (simp [go_sem]; done) | (simp [go_sem]; omega))); intro hl1c))
    go_wp2
    go_ret
    exact ⟨rfl, by (repeat (first | with_reducible exact Below.refl _ _ | with_reducible refine below_alloc ?_ _ | with_reducible refine below_drewN ?_ _ | with_reducible refine Below.drew ?_ | ((with_reducible refine below_set ?_ ?_ _); rotate_left; (focus (first | (simp; done) | (simp; omega) | omega))) | with_reducible refine below_call ?_ (by assumption)))⟩
  · rw [show wtx zs = txK [45] zs n by simp [wtx, hv, hl]]
    have hz : ∀ j, j < zs.length → 0 ≤ zs.getD j 0 ∧ zs.getD j 0 < 1000 := fun j hj => by have := (vWheel_yes hv).1 j hj; omega
    have HZ := Lib.hid hz
    clear hz
    go_enter Tryz.func14, Tryz.ntmps14
    go_wp2_with fail
    refine (l20Ok_any _ _ _ _ zs _ (by exact Ints.below (H.out) (by (repeat (first | with_reducible exact Below.refl _ _ | with_reducible refine below_alloc ?_ _ | with_reducible refine below_drewN ?_ _ | with_reducible refine Below.drew ?_ | ((with_reducible refine below_set ?_ ?_ _); rotate_left; (focus (first | (simp; done) | (simp; omega) | omega))) | with_reducible refine below_call ?_ (by assumption))))) (by exact Below.size (B := w.heap.size) (w := w) (by (repeat (first | with_reducible exact Below.refl _ _ | with_reducible refine below_alloc ?_ _ | with_reducible refine below_drewN ?_ _ | with_reducible refine Below.drew ?_ | ((with_reducible refine below_set ?_ ?_ _); rotate_left; (focus (first | (simp; done) | (simp; omega) | omega))) | with_reducible refine below_call ?_ (by assumption))))) hn).mono ?_
    rintro e w1 ⟨rfl, hb1⟩
    obtain ⟨hc1, hf1, hs1⟩ := bcell hb1
    (try (refine cut_ (p := w.heap.size < w1.heap.size) ?_ ?_; (focus (refine hs1 _ ?_; first | assumption | omega | (simp [go_sem]; done) | (simp [go_sem]; omega))); intro hl1a))
    (try (refine cut_ (p := w.heap.size + 1 < w1.heap.size) ?_ ?_; (focus (refine hs1 _ ?_; first | assumption | omega | (simp [go_sem]; done) | (simp [go_sem]; omega))); intro hl1b))
    (try (refine cut_ (p := w.heap.size + 1 + 1 < w1.heap.size) ?_ ?_; (focus (refine hs1 _ ?_; first | assumption | omega | (simp [go_sem]; done) | (simp [go_sem]; omega))); intro hl1c))
    go_wp2_with fail
    refine (l20Text_any _ _ _ _ zs _ (by exact Ints.below (H.out) (by (repeat (first | with_reducible exact Below.refl _ _ | with_reducible refine below_alloc ?_ _ | with_reducible refine below_drewN ?_ _ | with_reducible refine Below.drew ?_ | ((with_reducible refine below_set ?_ ?_ _); rotate_left; (focus (first | (simp; done) | (simp; omega) | omega))) | with_reducible refine below_call ?_ (by assumption))))) (by exact Below.size (B := w.heap.size) (w := w) (by (repeat (first | with_reducible exact Below.refl _ _ | with_reducible refine below_alloc ?_ _ | with_reducible refine below_drewN ?_ _ | with_reducible refine Below.drew ?_ | ((with_reducible refine below_set ?_ ?_ _); rotate_left; (focus (first | (simp; done) | (simp; omega) | omega))) | with_reducible refine below_call ?_ (by assumption))))) hn HZ.out).mono ?_
    rintro e w2 ⟨rfl, hb2⟩
    obtain ⟨hc2, hf2, hs2⟩ := bcell hb2
    (try (refine cut_ (p := w.heap.size < w2.heap.size) ?_ ?_; (focus (refine hs2 _ ?_; first | assumption | omega | (simp [go_sem]; done) | (simp [go_sem]; omega))); intro hl2a))
    (try (refine cut_ (p := w.heap.size + 1 < w2.heap.size) ?_ ?_; (focus (refine hs2 _ ?_; first | assumption | omega | (simp [go_sem]; done) | (simp [go_sem]; omega))); intro hl2b))
    (try (refine cut_ (p := w.heap.size + 1 + 1 < w2.heap.size) ?_ ?_; (focus (refine hs2 _ ?_; first | assumption | omega | (simp [go_sem]; done) | (simp [go_sem]; omega))); intro hl2c))
    go_wp2
    go_ret
    exact ⟨rfl, by (repeat (first | with_reducible exact Below.refl _ _ | with_reducible refine below_alloc ?_ _ | with_reducible refine below_drewN ?_ _ | with_reducible refine Below.drew ?_ | ((with_reducible refine below_set ?_ ?_ _); rotate_left; (focus (first | (simp; done) | (simp; omega) | omega))) | with_reducible refine below_call ?_ (by assumption)))⟩
set_option maxHeartbeats 4000000 in
theorem CountWheelText_any (A : Option Addr) (n c B : Nat) (zs : List Int) (w : World) (h : Ints w B A n zs) (hB : B ≤ w.heap.size) (hn : n ≤ 1048576) :
    Calls Tryz.prog 9 #[.agg #[.slice A n c]] w fun e w' => e = .returned (.string ⟨(wtx zs).toArray⟩) ∧ Below w.heap.size w w' := by
  have hl := h.len
  have H := Lib.hid (h.more hB)
  clear h
  cases hv : vWheel zs
  · rw [show wtx zs = [] by simp [wtx, hv]]
    go_enter Tryz.func9, Tryz.ntmps9
    go_wp2_with fail
    refine (ValidCountWheel_any _ _ _ _ zs _ (by exact Ints.below (H.out) (by (repeat (first | with_reducible exact Below.refl _ _ | with_reducible refine below_alloc ?_ _ | with_reducible refine below_drewN ?_ _ | with_reducible refine Below.drew ?_ | ((with_reducible refine below_set ?_ ?_ _); rotate_left; (focus (first | (simp; done) | (simp; omega) | omega))) | with_reducible refine below_call ?_ (by assumption))))) (by exact Below.size (B := w.heap.size) (w := w) (by (repeat (first | with_reducible exact Below.refl _ _ | with_reducible refine below_alloc ?_ _ | with_reducible refine below_drewN ?_ _ | with_reducible refine Below.drew ?_ | ((with_reducible refine below_set ?_ ?_ _); rotate_left; (focus (first | (simp; done) | (simp; omega) | omega))) | with_reducible refine below_call ?_ (by assumption))))) hn).mono ?_
    rintro e w1 ⟨rfl, hb1⟩
    obtain ⟨hc1, hf1, hs1⟩ := bcell hb1
    (try (refine cut_ (p := w.heap.size < w1.heap.size) ?_ ?_; (focus (refine hs1 _ ?_; first | assumption | omega | (simp [go_sem]; done) | (simp [go_sem]; omega))); intro hl1a))
    (try (refine cut_ (p := w.heap.size + 1 < w1.heap.size) ?_ ?_; (focus (refine hs1 _ ?_; first | assumption | omega | (simp [go_sem]; done) | (simp [go_sem]; omega))); intro hl1b))
    (try (refine cut_ (p := w.heap.size + 1 + 1 < w1.heap.size) ?_ ?_; (focus (refine hs1 _ ?_; first | assumption | omega | (simp [go_sem]; done) | (simp [go_sem]; omega))); intro hl1c))
    go_wp2
    go_ret
    exact ⟨rfl, by (repeat (first | with_reducible exact Below.refl _ _ | with_reducible refine below_alloc ?_ _ | with_reducible refine below_drewN ?_ _ | with_reducible refine Below.drew ?_ | ((with_reducible refine below_set ?_ ?_ _); rotate_left; (focus (first | (simp; done) | (simp; omega) | omega))) | with_reducible refine below_call ?_ (by assumption)))⟩
  · rw [show wtx zs = txK [45] zs n by simp [wtx, hv, hl]]
    obtain ⟨v1, v2, v3⟩ := vWheel_yes hv
    rw [hl] at v2 v3
    have HZ := Lib.hid v1
    have HL := Lib.hid hl
    clear v1 hl
    go_enter Tryz.func9, Tryz.ntmps9
    go_wp2_with fail
    refine (ValidCountWheel_any _ _ _ _ zs _ (by exact Ints.below (H.out) (by (repeat (first | with_reducible exact Below.refl _ _ | with_reducible refine below_alloc ?_ _ | with_reducible refine below_drewN ?_ _ | with_reducible refine Below.drew ?_ | ((with_reducible refine below_set ?_ ?_ _); rotate_left; (focus (first | (simp; done) | (simp; omega) | omega))) | with_reducible refine below_call ?_ (by assumption))))) (by exact Below.size (B := w.heap.size) (w := w) (by (repeat (first | with_reducible exact Below.refl _ _ | with_reducible refine below_alloc ?_ _ | with_reducible refine below_drewN ?_ _ | with_reducible refine Below.drew ?_ | ((with_reducible refine below_set ?_ ?_ _); rotate_left; (focus (first | (simp; done) | (simp; omega) | omega))) | with_reducible refine below_call ?_ (by assumption))))) hn).mono ?_
    rintro e w1 ⟨rfl, hb1⟩
    obtain ⟨hc1, hf1, hs1⟩ := bcell hb1
    (try (refine cut_ (p := w.heap.size < w1.heap.size) ?_ ?_; (focus (refine hs1 _ ?_; first | assumption | omega | (simp [go_sem]; done) | (simp [go_sem]; omega))); intro hl1a))
    (try (refine cut_ (p := w.heap.size + 1 < w1.heap.size) ?_ ?_; (focus (refine hs1 _ ?_; first | assumption | omega | (simp [go_sem]; done) | (simp [go_sem]; omega))); intro hl1b))
    (try (refine cut_ (p := w.heap.size + 1 + 1 < w1.heap.size) ?_ ?_; (focus (refine hs1 _ ?_; first | assumption | omega | (simp [go_sem]; done) | (simp [go_sem]; omega))); intro hl1c))
    have B1 : Below w.heap.size w w1 := by (repeat (first | with_reducible exact Below.refl _ _ | with_reducible refine below_alloc ?_ _ | with_reducible refine below_drewN ?_ _ | with_reducible refine Below.drew ?_ | ((with_reducible refine below_set ?_ ?_ _); rotate_left; (focus (first | (simp; done) | (simp; omega) | omega))) | with_reducible refine below_call ?_ (by assumption)))
    have l1 : w1.cell? ⟨w.heap.size, 0, none⟩ = some (.slice A n c) := by simp [go_sem, hc1]
    have z1 : w.heap.size < w1.heap.size := by omega
    clear hc1 hf1 hs1 hb1
    go_wp2
    go_loopw [3, 5, 12] (fun l x t wr => ∃ (k c' : Nat) (L : Option Addr), t = .int .i64 k ∧ k ≤ n ∧ l = .slice L k c' ∧ Hid (wr.ownsRow w1.heap.size 9 1 (.slice L k c') k (((zs.take k).map fun z => (⟨(dd z).toArray⟩ : ByteArray)).map Value.string)) ∧ Below w1.heap.size w1 wr) (fun _ _ t _ => n - (intOf t).toNat)
    case atStart => exact ⟨0, 0, none, rfl, Nat.zero_le _, rfl, Lib.hid (World.ownsRow_nil _ _ _ 1), Below.refl _ _⟩
    case round =>
      obtain ⟨k, c', L, rfl, hk, rfl, ho, hB⟩ := hrel
      have zr := hB.size
      have HB := Lib.hid hB
      have BB := Lib.hid (B1.trans (hB.mono (by omega)))
      clear hB
      by_cases hlt : k < n
      · obtain ⟨bb, off, rfl, hbl, hc⟩ := H.out.at_ hlt
        have hzk := HZ.out k (by rw [HL.out]; exact hlt)
        have hkl : k < zs.length := by rw [HL.out]; exact hlt
        have hcr : wr.cell? ⟨bb, off + k, none⟩ = some (.int .i64 (zs.getD k 0)) := (BB.out.cell (by simpa using hbl)).trans hc
        obtain ⟨x, hx⟩ := Int.eq_ofNat_of_zero_le (show 0 ≤ zs.getD k 0 by omega)
        have HT := Lib.hid (show ((zs.take (k + 1)).map fun z => (⟨(dd z).toArray⟩ : ByteArray)).map Value.string = ((zs.take k).map fun z => (⟨(dd z).toArray⟩ : ByteArray)).map Value.string ++ [.string ⟨(Lib.decDigits x).toArray⟩] by
          rw [List.take_succ_eq_append_getElem hkl]
          simp only [List.map_append, List.map_cons, List.map_nil]
          rw [← getD_of hkl, hx]; rfl)
        rw [hx] at hcr hzk
        have i0 : (0 : Int) ≤ (k : Int) := Int.natCast_nonneg _
        have i1 : (k : Int) < (n : Int) := by omega
        clear hx hc
        go_wp2_with (first | (go_at_call 24; refine (Decimal_small x _ (by omega)).mono ?_; rintro e w' ⟨rfl, rfl⟩) | (at_builtin; refine wpList_appT rfl _ _ rfl _ w1.heap.size _ _ _ _ rfl (World.ownsRow.alloc ho.out _) wr.heap.size rfl ⟨(Lib.decDigits x).toArray⟩ (by simp [go_sem]) (by omega) (by simp; omega) ?_; intro g2 c2 w2 ho2 hb2; have HO2 := Lib.hid ho2; have HB2 := Lib.hid ((HB.out.alloc zr _).trans hb2); clear ho2 hb2) | fail)
        go_roundw
        case rel => exact ⟨k + 1, c2, some ⟨g2, 0, none⟩, by go_num, by omega, rfl, by rw [HT.out]; exact HO2, HB2.out⟩
        case measure => simp [intOf]; omega
      · obtain rfl : k = n := by omega
        have ht : zs.take k = zs := List.take_of_length_le (by rw [HL.out]; omega)
        rw [ht] at ho
        have hcap : ∃ g, L = some ⟨g, 0, none⟩ ∧ g < wr.heap.size ∧ k ≤ c' := by
          rcases ho.out.2 with ⟨_, h0⟩ | ⟨g, cap, cur, e, hb, hg, h1, _⟩
          · omega
          · injection e with e1 e2 e3
            subst e3
            exact ⟨g, e1, (Array.getElem?_eq_some_iff.1 hg).1, h1⟩
        obtain ⟨g, rfl, hg1, hg2⟩ := hcap
        have hlen : ((zs.map fun z => (⟨(dd z).toArray⟩ : ByteArray)).map (·.data.toList)) = zs.map dd := by rw [List.map_map]; apply List.map_congr_left; intro z _; rfl
        have hxl : (zs.map fun z => (⟨(dd z).toArray⟩ : ByteArray)).length = k := by rw [List.length_map, HL.out]
        have hjn := txK_join [45] zs k (by omega) (by rw [HL.out]; exact Nat.le_refl _)
        rw [ht] at hjn
        have htl := txK_len [45] zs (by simp) (fun j hj => by have := HZ.out j hj; omega) k (by rw [HL.out]; exact Nat.le_refl _)
        have hJ := Tryz.strings_Join g 0 c' (zs.map fun z => (⟨(dd z).toArray⟩ : ByteArray)) ⟨#[45]⟩ wr (fun j x hj => by
          have hj2 : j < (zs.map fun z => (⟨(dd z).toArray⟩ : ByteArray)).length := (List.getElem?_eq_some_iff.1 hj).1
          rw [Nat.zero_add, World.ownsRow.cellAt ho.out j (by omega), List.getElem?_map, hj]; rfl) hg1 (by omega) (by omega) (by rw [hlen, show (⟨#[45]⟩ : ByteArray).data.toList = [45] from rfl, ← hjn]; omega)
        rw [hlen, show (⟨#[45]⟩ : ByteArray).data.toList = [45] from rfl, ← hjn, hxl] at hJ
        have HJ := Lib.hid hJ
        clear hJ hlen hjn htl ht hxl
        go_wp2_with (first | (go_at_call 25; refine HJ.out.mono ?_; rintro e w2 ⟨rfl, hb2⟩; have HB2 := Lib.hid (BB.out.trans (hb2.mono (by omega))); clear hb2) | fail)
        go_ret
        exact ⟨rfl, HB2.out⟩
end Go.Proofs.YtajcbppndkkbpaaGreatDoor
