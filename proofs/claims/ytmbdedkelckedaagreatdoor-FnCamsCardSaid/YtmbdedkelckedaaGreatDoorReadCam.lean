/- Contracts of the two readings of a cam from its text. No conditions but that the text has at most 2^20 bytes, and those on the library's variables. -/
import Derived.Test.YtmbdedkelckedaaGreatDoorReadNeg
import Derived.Test.YtmbdedkelckedaaGreatDoorCore4
namespace Go.Proofs.YtmbdedkelckedaaGreatDoor
open Go.RowKit
set_option linter.unusedVariables false
set_option linter.unusedSimpArgs false
def numZ (p : List UInt8) : Int := ((numR p).getD 0 : Nat)
/-- the numbers of a text's words, zero for a word that is none -/
def rdZ (c : UInt8) (s : List UInt8) : List Int := (splitL c s).map numZ
theorem splitL_len (c : UInt8) : ∀ s, (splitL c s).length ≤ s.length + 1
  | [] => by simp [splitL]
  | b :: r => by
    have ih := splitL_len c r
    obtain ⟨h, t, e⟩ := splitL_some c r
    unfold splitL
    split
    · simp; omega
    · rw [e] at ih ⊢; simp at ih ⊢; omega
theorem splitL_pos (c : UInt8) (s : List UInt8) : 1 ≤ (splitL c s).length := by
  obtain ⟨h, t, e⟩ := splitL_some c s
  rw [e]; simp
theorem numZ_bad {p : List UInt8} (h : numR p = none) : numZ p = 0 := by unfold numZ; rw [h]; rfl
theorem numZ_ok {p : List UInt8} {v : Nat} (h : numR p = some v) : numZ p = v := by unfold numZ; rw [h]; rfl
theorem rdZ_len (c : UInt8) (s : List UInt8) : (rdZ c s).length = (splitL c s).length := by simp [rdZ]
theorem rdZ_at {c : UInt8} {s : List UInt8} {k : Nat} (hk : k < (splitL c s).length) : (rdZ c s).getD k 0 = numZ ((splitL c s).getD k []) := by
  have hk2 : k < (rdZ c s).length := by rw [rdZ_len]; exact hk
  rw [getD_of hk2]
  simp only [rdZ, List.getElem_map, List.getD_eq_getElem?_getD, List.getElem?_eq_getElem hk, Option.getD_some]
theorem rdZ_zero {c : UInt8} {s : List UInt8} {k : Nat} (hk : k < (splitL c s).length) (h : numR ((splitL c s).getD k []) = none) : vCam (rdZ c s) = false := by
  refine vCam_bad (k := k) (by rw [rdZ_len]; exact hk) ?_
  rw [rdZ_at hk, numZ_bad h]; decide
theorem neg_none {p : List UInt8} (h : p.head? = some 45) : numR p = none := by
  cases p with
  | nil => cases h
  | cons b r => injection h with h; exact numR_dig (b := b) (by simp) (by rw [h]; decide)
theorem map_dd (l : List (List UInt8)) (h : ∀ p ∈ l, ∃ v, numR p = some v) : (l.map numZ).map dd = l := by
  rw [List.map_map]
  conv => rhs; rw [← List.map_id l]
  apply List.map_congr_left
  intro p hp
  obtain ⟨v, hv⟩ := h p hp
  show dd (numZ p) = p
  rw [numZ_ok hv]
  exact (numR_some hv).1
theorem rdZ_text {s : List UInt8} (h : vCam (rdZ 32 s) = true) : txK [32] (rdZ 32 s) (rdZ 32 s).length = s := by
  have ha : ∀ p ∈ splitL 32 s, ∃ v, numR p = some v := by
    intro p hp
    obtain ⟨k, hk, e⟩ := List.mem_iff_getElem.1 hp
    cases hn : numR p with
    | some v => exact ⟨v, rfl⟩
    | none =>
      rw [rdZ_zero hk (by rw [List.getD_eq_getElem?_getD, List.getElem?_eq_getElem hk, Option.getD_some, e]; exact hn)] at h; cases h
  have hl := splitL_pos 32 s
  rw [txK_join [32] _ _ (by rw [rdZ_len]; omega) (Nat.le_refl _), List.take_length]
  unfold rdZ
  rw [map_dd _ ha]
  exact join_splitL 32 s
/-- what is read of a word: its number, or something at most zero where it begins with a sign -/
def Rel (p : List UInt8) (z : Int) : Prop := (p.head? ≠ some 45 ∧ z = numZ p) ∨ (p.head? = some 45 ∧ z ≤ 0)
def Near (ps : List (List UInt8)) (zs : List Int) (k : Nat) : Prop := zs.length = k ∧ ∀ j, j < k → Rel (ps.getD j []) (zs.getD j 0)
theorem Near.snoc {ps : List (List UInt8)} {zs : List Int} {k : Nat} {z : Int} (h : Near ps zs k) (hz : Rel (ps.getD k []) z) : Near ps (zs ++ [z]) (k + 1) := by
  refine ⟨by simp [h.1], fun j hj => ?_⟩
  by_cases e : j = k
  · subst e
    have : (zs ++ [z]).getD j 0 = z := by rw [List.getD_eq_getElem?_getD, ← h.1, List.getElem?_concat_length]; rfl
    rw [this]; exact hz
  · have h1 : j < zs.length := by rw [h.1]; omega
    have : (zs ++ [z]).getD j 0 = zs.getD j 0 := by rw [List.getD_eq_getElem?_getD, List.getD_eq_getElem?_getD, List.getElem?_append_left h1]
    rw [this]; exact h.2 j (by omega)
theorem Near.good {s : List UInt8} {zs : List Int} {n : Nat} (h : Near (splitL 32 s) zs n) (hn : (splitL 32 s).length = n) : vCam zs = vCam (rdZ 32 s) ∧ (vCam (rdZ 32 s) = true → zs = rdZ 32 s) := by
  by_cases hneg : ∃ j, j < n ∧ ((splitL 32 s).getD j []).head? = some 45
  · obtain ⟨j, hj, hh⟩ := hneg
    have h1 : vCam (rdZ 32 s) = false := rdZ_zero (by omega) (neg_none hh)
    have h2 : vCam zs = false := by
      refine vCam_bad (k := j) (by rw [h.1]; exact hj) ?_
      rcases h.2 j hj with ⟨h3, _⟩ | ⟨_, h3⟩
      · exact absurd hh h3
      · cases hi : inB (zs.getD j 0) 1 60
        · rfl
        · have := inB_yes hi; omega
    rw [h1, h2]
    exact ⟨rfl, fun e => by cases e⟩
  · have e : zs = rdZ 32 s := by
      refine List.ext_getElem (by rw [h.1, rdZ_len, hn]) (fun j h1 h2 => ?_)
      have hj : j < n := by rw [← h.1]; exact h1
      have h3 := rdZ_at (c := 32) (s := s) (k := j) (by omega)
      rw [getD_of h2] at h3
      rcases h.2 j hj with ⟨_, h4⟩ | ⟨h4, _⟩
      · rw [getD_of h1] at h4; rw [h3, h4]
      · exact absurd ⟨j, hj, h4⟩ hneg
    rw [e]
    exact ⟨rfl, fun _ => rfl⟩
/-- the words as cells -/
def Wds (w : World) (g m : Nat) (ps : List (List UInt8)) : Prop := ps.length = m ∧ ∀ k, k < m → ∃ p : ByteArray, w.cell? ⟨g, k, none⟩ = some (.string p) ∧ p.data.toList = ps.getD k [] ∧ p.data.toList ∈ ps
theorem Wds.of {w : World} {base g m c : Nat} {ps : List (List UInt8)} (h : Row w base g m c ps) : Wds w g m ps := ⟨h.len, fun _ hk => h.at_ hk⟩
theorem Wds.keep {w w' : World} {g m : Nat} {ps : List (List UInt8)} (h : Wds w g m ps) (hk : ∀ j, w'.cell? ⟨g, j, none⟩ = w.cell? ⟨g, j, none⟩) : Wds w' g m ps :=
  ⟨h.1, fun k hk' => by rw [hk k]; exact h.2 k hk'⟩
theorem Row.lt {w : World} {base g m c : Nat} {ps : List (List UInt8)} (h : Row w base g m c ps) : base ≤ g ∧ g < w.heap.size := by
  obtain ⟨W, e, h⟩ := h
  rcases h.2 with ⟨h0, _⟩ | ⟨g2, cap, cur, e2, hb2, hg, hr⟩
  · cases h0
  · injection e2 with e2
    injection e2 with e2
    injection e2 with e2
    subst e2
    exact ⟨hb2, (Array.getElem?_eq_some_iff.1 hg).1⟩
/-- the state of the loop over the words: the numbers so far from B1 on, the words in block g below B1 -/
structure RC (w : World) (B1 g m : Nat) (ps : List (List UInt8)) (wr : World) (L : Option Addr) (k c : Nat) (zs : List Int) : Prop where
  z : B1 ≤ wr.heap.size
  b : w.heap.size ≤ B1
  gl : g < B1
  own : Own wr B1 L k c zs
  wds : Wds wr g m ps
  near : Near ps zs k
  bel : Below w.heap.size w wr
theorem RC.call {w wr w2 : World} {B1 g m k c : Nat} {ps : List (List UInt8)} {L : Option Addr} {zs : List Int} (h : RC w B1 g m ps wr L k c zs) (hb : Below wr.heap.size wr w2) : RC w B1 g m ps w2 L k c zs := by
  have hz := h.z
  have hbb := h.b
  have hg := h.gl
  exact ⟨Nat.le_trans hz hb.size, hbb, hg, h.own.call hb, h.wds.keep fun j => hb.cell (by simp; omega), h.near, h.bel.trans (hb.mono (by omega))⟩
theorem RC.step {w w2 w3 : World} {B1 g m k c c' : Nat} {ps : List (List UInt8)} {L L' : Option Addr} {zs : List Int} {z : Int} {o : Obj} (h : RC w B1 g m ps w2 L k c zs) (hb : Below B1 (w2.alloc o) w3) (ho : Own w3 B1 L' (k + 1) c' (zs ++ [z])) (hr : Rel (ps.getD k []) z) :
    RC w B1 g m ps w3 L' (k + 1) c' (zs ++ [z]) := by
  have hz := h.z
  have hbb := h.b
  have hg := h.gl
  have h3 : B1 ≤ w3.heap.size := by have := hb.size; simp at this; omega
  refine ⟨h3, hbb, hg, ho, h.wds.keep fun j => ?_, h.near.snoc hr, (h.bel.alloc (by omega) o).trans (hb.mono (by omega))⟩
  exact (hb.cell (p := ⟨g, j, none⟩) (by simp; omega)).trans (World.cell?_alloc_lt w2 _ _ (by simp; omega))
/-- a call gives what the text s reads as: a new cam and true, or none and false -/
def ReadCamR (w : World) (s : List UInt8) (e : Ending) (w' : World) : Prop := ∃ A n c, e = .returned (.tuple #[.slice A n c, .bool (vCam (rdZ 32 s))]) ∧ Own w' w.heap.size A n c (if vCam (rdZ 32 s) then rdZ 32 s else []) ∧ Below w.heap.size w w'
theorem read_bad {w w' : World} {s : List UInt8} (h : vCam (rdZ 32 s) = false) (hb : Below w.heap.size w w') : ReadCamR w s (.returned (.tuple #[.slice none 0 0, .bool false])) w' := ⟨none, 0, 0, by rw [h], by rw [h]; exact Own.nil_, hb⟩
theorem read_good {w w' : World} {s : List UInt8} {A : Option Addr} {n c : Nat} (h : vCam (rdZ 32 s) = true) (ho : Own w' w.heap.size A n c (rdZ 32 s)) (hb : Below w.heap.size w w') : ReadCamR w s (.returned (.tuple #[.slice A n c, .bool true])) w' := ⟨A, n, c, by rw [h], by rw [h]; exact ho, hb⟩
theorem decimal_it (p : ByteArray) (mx : Int) (w : World) (L : Lays w mx) : Calls Tryz.prog 41 #[.string p] w fun e w' => ∃ (v : Int) (ok : Bool), e = .returned (.tuple #[.int .i64 v, .bool ok]) ∧ Rel p.data.toList v ∧ Below w.heap.size w w' := by
  by_cases hh : p.data.toList.head? = some 45
  · refine (ReadDecimal_neg p mx w hh L).mono ?_
    rintro e w' ⟨v, ok, rfl, hv, hb⟩
    exact ⟨v, ok, rfl, .inr ⟨hh, hv⟩, hb⟩
  · refine (ReadDecimal_any p mx w hh L).mono ?_
    rintro e w' ⟨rfl, hb⟩
    cases hn : numR p.data.toList with
    | none => exact ⟨0, false, by rw [numT_none hn], .inl ⟨hh, (numZ_bad hn).symm⟩, hb⟩
    | some v => exact ⟨v, true, by rw [numT_some hn], .inl ⟨hh, (numZ_ok hn).symm⟩, hb⟩
set_option maxHeartbeats 400000 in
theorem wordsOf_any (s : ByteArray) (mx : Int) (w : World) (hs : s.size ≤ 1048576) (L : Lays w mx) :
    Calls Tryz.prog 40 #[.string s] w fun e w' => ∃ g m c', e = .returned (.slice (some ⟨g, 0, none⟩) m c') ∧ Row w' w.heap.size g m c' (splitL 32 s.data.toList) ∧ Below w.heap.size w w' := by
  have HC := Lib.hid (Split_any s 32 mx w hs L.here.2.2.2)
  clear L
  go_enter Tryz.func40, Tryz.ntmps40
  go_wp2_with (first | (go_at_call 51; refine HC.out.mono ?_; rintro e w1 ⟨g, m, c, rfl, ho1, hb1⟩; have HO1 := Lib.hid ho1; have HB1 := Lib.hid hb1; clear ho1 hb1) | fail)
  go_ret
  exact ⟨g, m, c, rfl, HO1.out, HB1.out⟩
set_option maxHeartbeats 4000000 in
theorem CamText_ok (A : Option Addr) (n c B : Nat) (zs : List Int) (w : World) (h : Ints w B A n zs) (hB : B ≤ w.heap.size) (hv : vCam zs = true) :
    Calls Tryz.prog 12 #[.slice A n c] w fun e w' => e = .returned (.string ⟨(txK [32] zs n).toArray⟩) ∧ Below w.heap.size w w' := by
  have hl := h.len
  have H := Lib.hid (h.more hB)
  clear h
  obtain ⟨v1, v2, v3⟩ := vCam_yes hv
  rw [hl] at v2 v3
  have HZ := Lib.hid v1
  have HL := Lib.hid hl
  have HV := Lib.hid hv
  clear v1 hl hv
  go_enter Tryz.func12, Tryz.ntmps12
  go_wp2_with (first | (go_at_call 42; refine (ValidCam_any A n c w.heap.size zs _ H.out (by omega)).mono ?_; rintro e w2 ⟨rfl, rfl⟩; rw [HV.out]) | fail)
  go_loopw [3, 5, 11] (fun l x t wr => ∃ (k c' : Nat) (L : Option Addr), t = .int .i64 k ∧ k ≤ n ∧ l = .slice L k c' ∧ Hid (wr.ownsRow w.heap.size 9 1 (.slice L k c') k (((zs.take k).map fun z => (⟨(dd z).toArray⟩ : ByteArray)).map Value.string)) ∧ Below w.heap.size w wr) (fun _ _ t _ => n - (intOf t).toNat)
  case atStart => exact ⟨0, 0, none, rfl, Nat.zero_le _, rfl, Lib.hid (World.ownsRow_nil _ _ _ 1), Below.refl _ _⟩
  case round =>
    obtain ⟨k, c', L, rfl, hk, rfl, ho, hB⟩ := hrel
    have zr := hB.size
    have HB := Lib.hid hB
    clear hB
    by_cases hlt : k < n
    · obtain ⟨bb, off, rfl, hbl, hc⟩ := H.out.at_ hlt
      have hzk := HZ.out k (by rw [HL.out]; exact hlt)
      have hkl : k < zs.length := by rw [HL.out]; exact hlt
      have hcr : wr.cell? ⟨bb, off + k, none⟩ = some (.int .i64 (zs.getD k 0)) := (HB.out.cell (by simpa using hbl)).trans hc
      obtain ⟨x, hx⟩ := Int.eq_ofNat_of_zero_le (show 0 ≤ zs.getD k 0 by omega)
      have HT := Lib.hid (show ((zs.take (k + 1)).map fun z => (⟨(dd z).toArray⟩ : ByteArray)).map Value.string = ((zs.take k).map fun z => (⟨(dd z).toArray⟩ : ByteArray)).map Value.string ++ [.string ⟨(Lib.decDigits x).toArray⟩] by
        rw [List.take_succ_eq_append_getElem hkl]
        simp only [List.map_append, List.map_cons, List.map_nil]
        rw [← getD_of hkl, hx]; rfl)
      rw [hx] at hcr hzk
      have i0 : (0 : Int) ≤ (k : Int) := Int.natCast_nonneg _
      have i1 : (k : Int) < (n : Int) := by omega
      clear hx hc
      go_wp2_with (first | (go_at_call 43; refine (Decimal_small x _ (by omega)).mono ?_; rintro e w' ⟨rfl, rfl⟩) | (at_builtin; refine wpList_appT rfl _ _ rfl _ w.heap.size _ _ _ _ rfl (World.ownsRow.alloc ho.out _) wr.heap.size rfl ⟨(Lib.decDigits x).toArray⟩ (by simp [go_sem]) (by omega) (by simp; omega) ?_; intro g2 c2 w2 ho2 hb2; have HO2 := Lib.hid ho2; have HB2 := Lib.hid ((HB.out.alloc zr _).trans hb2); clear ho2 hb2) | fail)
      go_roundw
      case rel => exact ⟨k + 1, c2, some ⟨g2, 0, none⟩, by go_num, by omega, rfl, by rw [HT.out]; exact HO2, HB2.out⟩
      case measure => simp [intOf]; omega
    · obtain rfl : k = n := by omega
      have ht : zs.take k = zs := List.take_of_length_le (by rw [HL.out]; omega)
      rw [ht] at ho
      have hcap : ∃ g, L = some ⟨g, 0, none⟩ ∧ g < wr.heap.size ∧ k ≤ c' := by
        rcases ho.out.2 with ⟨_, h0⟩ | ⟨g, cap, cur, e, hb, hg, h1, _⟩
        · omega
        · injection e with e1 e2 e3
          subst e3
          exact ⟨g, e1, (Array.getElem?_eq_some_iff.1 hg).1, h1⟩
      obtain ⟨g, rfl, hg1, hg2⟩ := hcap
      have hlen : ((zs.map fun z => (⟨(dd z).toArray⟩ : ByteArray)).map (·.data.toList)) = zs.map dd := by rw [List.map_map]; apply List.map_congr_left; intro z _; rfl
      have hxl : (zs.map fun z => (⟨(dd z).toArray⟩ : ByteArray)).length = k := by rw [List.length_map, HL.out]
      have hjn := txK_join [32] zs k (by omega) (by rw [HL.out]; exact Nat.le_refl _)
      rw [ht] at hjn
      have htl := txK_len [32] zs (by simp) (fun j hj => by have := HZ.out j hj; omega) k (by rw [HL.out]; exact Nat.le_refl _)
      have hJ := Tryz.strings_Join g 0 c' (zs.map fun z => (⟨(dd z).toArray⟩ : ByteArray)) ⟨#[32]⟩ wr (fun j x hj => by
        have hj2 : j < (zs.map fun z => (⟨(dd z).toArray⟩ : ByteArray)).length := (List.getElem?_eq_some_iff.1 hj).1
        rw [Nat.zero_add, World.ownsRow.cellAt ho.out j (by omega), List.getElem?_map, hj]; rfl) hg1 (by omega) (by omega) (by rw [hlen, show (⟨#[32]⟩ : ByteArray).data.toList = [32] from rfl, ← hjn]; omega)
      rw [hlen, show (⟨#[32]⟩ : ByteArray).data.toList = [32] from rfl, ← hjn, hxl] at hJ
      have HJ := Lib.hid hJ
      clear hJ hlen hjn htl ht hxl
      go_wp2_with (first | (go_at_call 44; refine HJ.out.mono ?_; rintro e w2 ⟨rfl, hb2⟩; have HB2 := Lib.hid (HB.out.trans (hb2.mono (by omega))); clear hb2) | fail)
      go_ret
      exact ⟨rfl, HB2.out⟩
set_option maxHeartbeats 4000000 in
theorem ReadCam_any (s : ByteArray) (mx : Int) (w : World) (hs : s.size ≤ 1048576) (LY : Lays w mx) :
    Calls Tryz.prog 11 #[.string s] w fun e w' => ReadCamR w s.data.toList e w' := by
  have hsl := size_list s
  have hlen := splitL_len 32 s.data.toList
  rw [hsl] at hlen
  have HLN := Lib.hid hlen
  have LL := Lib.hid LY
  clear hsl hlen LY
  go_enter Tryz.func11, Tryz.ntmps11
  go_wp2_with (first | (go_at_call 40; refine (wordsOf_any s mx _ hs LL.out).mono ?_; rintro e w1 ⟨g, m, c, rfl, ho1, hb1⟩; have HO1 := Lib.hid ho1; have HB1 := Lib.hid hb1; clear ho1 hb1) | fail)
  have hm := HO1.out.len
  have z1 := HB1.out.size
  have hgl := HO1.out.lt
  have R0 : Hid (RC w w1.heap.size g m (splitL 32 s.data.toList) w1 none 0 0 []) := Lib.hid ⟨Nat.le_refl _, by omega, by omega, Own.nil_, Wds.of HO1.out, ⟨rfl, fun j hj => by omega⟩, HB1.out⟩
  have hm2 : m ≤ 1048577 := by have := HLN.out; omega
  have HM := Lib.hid hm
  clear hm z1 hgl HO1 HB1 HLN
  go_wp2_with fail
  go_loopw [4, 12, 6, 7, 8] (fun l t _ _ _ wr => ∃ (k c2 : Nat) (L : Option Addr) (zs : List Int), t = .int .i64 k ∧ k ≤ m ∧ l = .slice L k c2 ∧ Hid (RC w w1.heap.size g m (splitL 32 s.data.toList) wr L k c2 zs)) (fun _ t _ _ _ _ => m - (intOf t).toNat)
  case atStart => exact ⟨0, 0, none, [], rfl, Nat.zero_le _, rfl, R0⟩
  case round =>
    obtain ⟨k, c2, L, zs, rfl, hk, rfl, RR⟩ := hrel
    have i0 : (0 : Int) ≤ (k : Int) := Int.natCast_nonneg _
    have zr := RR.out.z
    by_cases hlt : k < m
    · have i1 : (k : Int) < (m : Int) := by omega
      obtain ⟨p, hp, hp2, hp3⟩ := RR.out.wds.2 k hlt
      have HP2 := Lib.hid hp2
      clear hp2 hp3
      go_wp2_with (first | (go_at_call 41; refine (decimal_it p mx _ (LL.out.keep RR.out.bel)).mono ?_; rintro e w2 ⟨v, ok, rfl, hr, hb2⟩; have R2 := Lib.hid (RR.out.call hb2); have HR := Lib.hid (show Rel ((splitL 32 s.data.toList).getD k []) v by rw [← HP2.out]; exact hr); clear hb2 hr) | (at_builtin; refine wpList_app rfl _ _ rfl _ w1.heap.size _ _ _ _ rfl (R2.out.own.alloc _) w2.heap.size rfl v (by simp [go_sem]) (by omega) (by have := R2.out.z; simp; omega) ?_; intro L2 c3 w3 ho3 hb3; have R3 := Lib.hid (R2.out.step hb3 ho3 HR.out); clear ho3 hb3) | fail)
      go_roundw
      case rel => exact ⟨k + 1, c3, L2, _, by go_num, by omega, rfl, R3⟩
      case measure => simp [intOf]; omega
    · obtain rfl : k = m := by omega
      obtain ⟨g1, g2⟩ := RR.out.near.good HM.out
      have HV1 := Lib.hid g1
      have HV2 := Lib.hid g2
      clear g1 g2
      cases hv : vCam (rdZ 32 s.data.toList)
      · have HV := Lib.hid hv
        clear hv
        go_wp2_with (first | (go_at_call 42; refine (ValidCam_any' L k c2 wr.heap.size zs _ (RR.out.own.ints (Nat.le_refl _)) hm2).mono ?_; rintro e w2 ⟨rfl, rfl⟩; rw [HV1.out, HV.out]) | fail)
        go_ret2
        exact read_bad HV.out RR.out.bel
      · have HZ := Lib.hid (HV2.out hv)
        have hlz : k = (rdZ 32 s.data.toList).length := by rw [rdZ_len, HM.out]
        have htx : txK [32] zs k = s.toList := by rw [HZ.out, hlz, rdZ_text hv, ByteArray.toList_eq s]
        have HTX := Lib.hid htx
        have HV := Lib.hid hv
        have HVZ := Lib.hid (HV1.out.trans hv)
        clear hv htx hlz
        go_wp2_with (first | (go_at_call 42; refine (ValidCam_any' L k c2 wr.heap.size zs _ (RR.out.own.ints (Nat.le_refl _)) hm2).mono ?_; rintro e w2 ⟨rfl, rfl⟩; rw [HVZ.out]) | (go_at_call 12; refine (CamText_ok L k c2 wr.heap.size zs _ (RR.out.own.ints (Nat.le_refl _)) (Nat.le_refl _) HVZ.out).mono ?_; rintro e w3 ⟨rfl, hb3⟩; have R3 := Lib.hid (RR.out.call hb3); clear hb3; rw [HTX.out]) | fail)
        go_ret2
        exact read_good HV.out (by rw [← HZ.out]; exact R3.out.own.low R3.out.b) R3.out.bel
end Go.Proofs.YtmbdedkelckedaaGreatDoor
