/- The draws of a text that is often changed, and of a text of a count wheel. No conditions but that the bytes lie apart from the source. -/
import Derived.Test.YtajcbppndkkbpaaGreatDoorDrawBentB
import Derived.Test.YtajcbppndkkbpaaGreatDoorTextWheel
import Derived.BigQuiet
namespace Go.Proofs.YtajcbppndkkbpaaGreatDoor
open Go.RowKit
set_option linter.unusedVariables false
set_option linter.unusedSimpArgs false
set_option maxRecDepth 8000
/-- a text of at most so many bytes -/
def TxIn (k : Nat) (v : Value) : Prop := ∃ x : ByteArray, v = .string x ∧ x.size ≤ k
theorem data_len (t : ByteArray) : t.data.toList.length = t.size := rfl
theorem empty_of {t : ByteArray} (h : t.size = 0) : t.toList.isEmpty = true := by
  rw [ByteArray.toList_eq, List.isEmpty_iff]
  exact List.eq_nil_of_length_eq_zero h
theorem not_empty {t : ByteArray} (h : 1 ≤ t.size) : t.toList.isEmpty = false := by
  rw [ByteArray.toList_eq]
  have h2 := data_len t
  cases hl : t.data.toList with
  | nil =>
    rw [hl, List.length_nil] at h2
    omega
  | cons a r => rfl
set_option maxHeartbeats 1000000 in
theorem text_any (A : Option Addr) (n c B g b off m cx : Nat) (vs : Nat → ByteArray) (K : Int) (w : World) (h : Src w g A n c K) (hb : Byts w B A n) (hB : B ≤ g) (hn : n ≤ 4096) (hK : K ≤ 900000000) (hc : ∀ j, j < m → w.cell? ⟨b, off + j, none⟩ = some (.string (vs j)) ∧ (vs j).size ≤ 1) (hne : b ≠ g) (hm : 1 ≤ m) (m2 : m ≤ 1048576) :
    Calls Tryz.prog 53 #[.pointer (some ⟨g, 0, none⟩), .slice (some ⟨b, off, none⟩) m cx] w (Drawn (TxIn 1) w g A n c (K + 2)) := by
  have H := Lib.hid h
  have HB := Lib.hid hb
  have hlt := h.lt
  clear h hb
  go_enter Tryz.func53, Tryz.ntmps53
  go_wp2_with fail
  go_at_call 36
  refine (pick_any A n c B g K m _ H.out HB.out hB hn hK (by omega)).mono ?_
  rintro e w1 ⟨v, ⟨x, rfl, x0, x1⟩, rfl, hs1, hg1⟩
  have S1 := Lib.hid hs1
  have hx : x < m := by split at x1 <;> omega
  obtain ⟨k, rfl⟩ := Int.eq_ofNat_of_zero_le x0
  have hk : k < m := by omega
  have hcell : w1.cell? ⟨b, off + k, none⟩ = some (.string (vs k)) := hg1.cell (hc k hk).1 (by simpa using hne)
  have hsz := Lib.hid (hc k hk).2
  generalize vs k = z at *
  clear hs1 hc x1
  go_wp2
  go_ret
  exact ⟨_, ⟨z, rfl, hsz.out⟩, rfl, S1.out, hg1⟩
set_option maxHeartbeats 4000000 in
theorem l01Spoil_any (A : Option Addr) (n c B g : Nat) (K : Int) (t : ByteArray) (w : World) (h : Src w g A n c K) (hb : Byts w B A n) (hBg : B ≤ g) (hBw : B ≤ w.heap.size) (hn : n ≤ 4096) (hK : K ≤ 600000000) (ht : t.size ≤ 1000) :
    Calls Tryz.prog 29 #[.pointer (some ⟨g, 0, none⟩), .string t] w (Drawn (TxIn 1001) w g A n c (K + 8)) := by
  have l0 := h.lt
  have H := Lib.hid h
  have HB0 := Lib.hid hb
  have HBY := Lib.hid (fun (W : World) (hg : w.grownBy W (some g)) => HB0.out.only hBw hg hBg)
  clear h hb
  go_enter Tryz.func29, Tryz.ntmps29
  go_wp2_with fail
  go_at_call 36
  refine (pick_any A n c B g K 5 _ H.out HB0.out hBg hn (by omega) (by omega)).mono ?_
  rintro e w1 ⟨v, ⟨x, rfl, x0, x1⟩, rfl, hs1, hg1⟩
  have S1 := Lib.hid hs1
  have G1 := Lib.hid hg1
  have z1 := hg1.size
  clear hs1 hg1 x1
  have hw1 : IntKind.i64.wrap ((t.size : Int) + 1) = (t.size : Int) + 1 := IntWalk.i64_in _ (by omega)
  by_cases e0 : x = 0
  · subst e0
    go_wp2_with fail
    go_at_call 36
    refine (pick_any A n c B g (K + 2) ((t.size : Int) + 1) _ S1.out (HBY.out _ G1.out) hBg hn (by omega) (by omega)).mono ?_
    rintro e w2 ⟨v, ⟨y, rfl, y0, y1⟩, rfl, hs2, hg2⟩
    have hy : y ≤ t.size := by split at y1 <;> omega
    obtain ⟨y, rfl⟩ := Int.eq_ofNat_of_zero_le y0
    have h3 : Src w2 g A n c (K + 4) := by simpa [Int.add_assoc] using hs2
    have h4 := h3.alloc (.cells #[.string ⟨#[32]⟩, .string ⟨#[48]⟩, .string ⟨#[45]⟩, .string ⟨#[120]⟩, .string ⟨#[49]⟩, .string ⟨#[57]⟩, .string ⟨#[46]⟩] 9)
    have S2 : Hid (Src (w2.alloc (.cells #[.string ⟨#[32]⟩, .string ⟨#[48]⟩, .string ⟨#[45]⟩, .string ⟨#[120]⟩, .string ⟨#[49]⟩, .string ⟨#[57]⟩, .string ⟨#[46]⟩] 9)).drew g A n c (K + 4)) := h4
    clear h3 h4
    have G2 := Lib.hid (only_drew (only_alloc (G1.out.trans hg2) (.cells #[.string ⟨#[32]⟩, .string ⟨#[48]⟩, .string ⟨#[45]⟩, .string ⟨#[120]⟩, .string ⟨#[49]⟩, .string ⟨#[57]⟩, .string ⟨#[46]⟩] 9)))
    have hy2 : y ≤ t.size := by omega
    have z2 := hg2.size
    clear hs2 hg2 y1
    go_wp2
    go_region_with ((go_at_call 53; refine (text_any A n c B g _ 0 7 7 (fun j => [⟨#[32]⟩, ⟨#[48]⟩, ⟨#[45]⟩, ⟨#[120]⟩, ⟨#[49]⟩, ⟨#[57]⟩, ⟨#[46]⟩].getD j ⟨#[]⟩) (K + 4) _ S2.out (HBY.out _ G2.out) hBg hn (by omega) (fun j hj => by
        match j, hj with
        | 0, _ => simp [ByteArray.size]
        | 1, _ => simp [ByteArray.size]
        | 2, _ => simp [ByteArray.size]
        | 3, _ => simp [ByteArray.size]
        | 4, _ => simp [ByteArray.size]
        | 5, _ => simp [ByteArray.size]
        | 6, _ => simp [ByteArray.size]) (by omega) (by omega) (by omega)).mono ?_; rintro e w5 ⟨v, ⟨z, rfl, hz⟩, rfl, hs5, hq5⟩; have S5 := Lib.hid hs5; have G5 := Lib.hid (G2.out.trans hq5); have hz2 : (t.extract 0 y).size + z.size ≤ 1001 := (by simp; omega); clear hs5 hq5))
    all_goals
      go_wp2
      have hsz : (t.extract 0 y ++ z ++ t.extract y t.size).size ≤ 1001 := by simp; omega
      generalize t.extract 0 y ++ z ++ t.extract y t.size = T at *
      refine bodyPost_ret (v := .string T) ?_ rfl ⟨_, ⟨T, rfl, hsz⟩, rfl, S5.out.more (by omega), G5.out⟩
      simp [results, Tryz.results29, go_sem, *]
  have n0 : (x == 0) = false := by simpa using e0
  by_cases e1 : x = 1
  · subst e1
    by_cases he : t.size = 0
    · have hE := empty_of he
      go_wp2
      refine bodyPost_ret (v := .string t) ?_ rfl ⟨_, ⟨t, rfl, by omega⟩, rfl, S1.out.more (by omega), G1.out⟩
      simp [results, Tryz.results29, go_sem, *]
    have ht0 : 1 ≤ t.size := by omega
    have hE := not_empty ht0
    go_wp2_with fail
    go_at_call 36
    refine (pick_any A n c B g (K + 2) (t.size : Int) _ S1.out (HBY.out _ G1.out) hBg hn (by omega) (by omega)).mono ?_
    rintro e w2 ⟨v, ⟨y, rfl, y0, y1⟩, rfl, hs2, hg2⟩
    have hy : y < t.size := by split at y1 <;> omega
    obtain ⟨y, rfl⟩ := Int.eq_ofNat_of_zero_le y0
    have hy2 : y < t.size := by omega
    have hw2 : IntKind.i64.wrap ((y : Int) + 1) = (y : Int) + 1 := IntWalk.i64_in _ (by omega)
    have S2 := Lib.hid hs2
    have G2 := Lib.hid (G1.out.trans hg2)
    clear hs2 hg2 y1
    go_wp2
    go_quiet (fail)
    go_wp2
    have hsz : (t.extract 0 y ++ t.extract (y + 1) t.size).size ≤ 1001 := by simp; omega
    generalize t.extract 0 y ++ t.extract (y + 1) t.size = T at *
    refine bodyPost_ret (v := .string T) ?_ rfl ⟨_, ⟨T, rfl, hsz⟩, rfl, Src.drewN (S2.out.more (by omega)) _, only_drewN G2.out _⟩
    simp [results, Tryz.results29, go_sem, *]
  have n1 : (x == 1) = false := by simpa using e1
  go_wp2
  refine bodyPost_ret (v := .string t) ?_ rfl ⟨_, ⟨t, rfl, by omega⟩, rfl, S1.out.more (by omega), G1.out⟩
  simp [results, Tryz.results29, go_sem, *]
set_option maxHeartbeats 4000000 in
theorem DrawReadCountWheel_any (A : Option Addr) (n c : Nat) (w : World) (hb : Byts w w.heap.size A n) (hn : n ≤ 4096) :
    Calls Tryz.prog 11 #[.slice A n c] w fun e w' => (∃ s : ByteArray, e = .returned (.string s) ∧ s.size ≤ 1001) ∧ Below w.heap.size w w' := by
  have HB0 := Lib.hid hb
  clear hb
  go_enter Tryz.func11, Tryz.ntmps11
  go_wp2_with fail
  go_at_call 28
  refine (l00From_any A n c _).mono ?_
  rintro e w1 ⟨rfl, hs1, hb1⟩
  have S1 : Hid (Src w1 w.heap.size A n c 0) := Lib.hid hs1
  have l1 : w.heap.size < w1.heap.size := S1.out.lt
  have HB1 := Lib.hid (HB0.out.below hb1)
  have hg1 : w.grownBy w1 (some w.heap.size) := only_of_below hb1
  have z1 := hb1.size
  clear hs1 hb1
  go_wp2_with fail
  obtain ⟨g, hg⟩ : ∃ g, g = w.heap.size := ⟨_, rfl⟩
  have HG := Lib.hid hg
  rw [← hg] at S1 l1 hg1 ⊢
  have HBY := Lib.hid (fun (W : World) (h : w.grownBy W (some g)) => HB0.out.only (Nat.le_refl _) h (by omega))
  clear hg
  go_wp2_with fail
  go_at_call 31
  refine (l20Bent_bnd A n c w.heap.size g 0 _ S1.out HB1.out (Nat.le_of_eq HG.out.symm) (by omega) hn (by omega)).mono ?_
  rintro e w2 ⟨L, m, d, zs, rfl, ml, m0, ho2, hs2, hq2, hz⟩
  have hl := ho2.len
  have z2 := hq2.size
  have l2 := hs2.lt
  have G2 := Lib.hid (hg1.trans hq2)
  have S2 := Lib.hid hs2
  have I2 := Lib.hid (ho2.ints (Nat.le_refl _))
  have HZ := Lib.hid (fun j (hj : j < zs.length) => hz.at j hj)
  clear ho2 hs2 hq2 hg1
  go_wp2_with fail
  go_at_call 30
  refine (l20Text_any L m d _ zs _ I2.out (by omega) (by omega) HZ.out).mono ?_
  rintro e w3 ⟨rfl, hb3⟩
  have z3 := hb3.size
  have G3 := Lib.hid (G2.out.trans (only_of_below hb3))
  have S3 := Lib.hid (S2.out.call hb3)
  have ht : (⟨(txK [45] zs m).toArray⟩ : ByteArray).size ≤ 1000 := by
    have := txK_len [45] zs (by simp) HZ.out m (by omega)
    simp [ByteArray.size]
    omega
  clear hb3
  generalize (⟨(txK [45] zs m).toArray⟩ : ByteArray) = T at *
  go_wp2_with fail
  go_at_call 29
  refine (l01Spoil_any A n c w.heap.size g (0 + 80) T _ S3.out (HBY.out _ G3.out) (Nat.le_of_eq HG.out.symm) (by omega) hn (by omega) ht).mono ?_
  rintro e w4 ⟨v, ⟨U, rfl, hu⟩, rfl, hs4, hq4⟩
  have G4 := Lib.hid (G3.out.trans hq4)
  clear hs4 hq4 ht
  go_wp2
  go_ret
  exact ⟨⟨U, rfl, hu⟩, below_only (Below.refl _ _) G4.out (Nat.le_refl _) (Nat.le_of_eq HG.out.symm)⟩
end Go.Proofs.YtajcbppndkkbpaaGreatDoor
