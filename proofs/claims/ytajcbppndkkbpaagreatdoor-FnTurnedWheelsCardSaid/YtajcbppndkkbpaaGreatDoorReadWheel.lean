/- Contracts of the two readings of a count wheel from its text. No conditions but that the text has at most 2^20 bytes, and those on the library's variables. -/
import Derived.Test.YtajcbppndkkbpaaGreatDoorRead
namespace Go.Proofs.YtajcbppndkkbpaaGreatDoor
open Go.RowKit
set_option linter.unusedVariables false
set_option linter.unusedSimpArgs false
def numZ (p : List UInt8) : Int := ((numR p).getD 0 : Nat)
/-- the numbers of a text's words, zero for a word that is none -/
def rdZ (c : UInt8) (s : List UInt8) : List Int := (splitL c s).map numZ
theorem splitL_len (c : UInt8) : ∀ s, (splitL c s).length ≤ s.length + 1
  | [] => by simp [splitL]
  | b :: r => by
    have ih := splitL_len c r
    obtain ⟨h, t, e⟩ := splitL_some c r
    unfold splitL
    split
    · simp; omega
    · rw [e] at ih ⊢; simp at ih ⊢; omega
theorem splitL_pos (c : UInt8) (s : List UInt8) : 1 ≤ (splitL c s).length := by
  obtain ⟨h, t, e⟩ := splitL_some c s
  rw [e]; simp
theorem numZ_bad {p : List UInt8} (h : numR p = none) : numZ p = 0 := by unfold numZ; rw [h]; rfl
theorem numZ_ok {p : List UInt8} {v : Nat} (h : numR p = some v) : numZ p = v := by unfold numZ; rw [h]; rfl
theorem rdZ_len (c : UInt8) (s : List UInt8) : (rdZ c s).length = (splitL c s).length := by simp [rdZ]
theorem rdZ_bad {c : UInt8} {s p : List UInt8} (hp : p ∈ splitL c s) (h : numR p = none) : vWheel (rdZ c s) = false := by
  obtain ⟨k, hk, e⟩ := List.mem_iff_getElem.1 hp
  have hk2 : k < (rdZ c s).length := by simpa [rdZ] using hk
  refine vWheel_bad hk2 ?_
  rw [getD_of hk2]
  have : (rdZ c s)[k] = 0 := by simp only [rdZ, List.getElem_map, e]; exact numZ_bad h
  rw [this]; decide
theorem map_dd (l : List (List UInt8)) (h : ∀ p ∈ l, ∃ v, numR p = some v) : (l.map numZ).map dd = l := by
  rw [List.map_map]
  conv => rhs; rw [← List.map_id l]
  apply List.map_congr_left
  intro p hp
  obtain ⟨v, hv⟩ := h p hp
  show dd (numZ p) = p
  rw [numZ_ok hv]
  exact (numR_some hv).1
theorem rdZ_text {s : List UInt8} (h : vWheel (rdZ 45 s) = true) : txK [45] (rdZ 45 s) (rdZ 45 s).length = s := by
  have ha : ∀ p ∈ splitL 45 s, ∃ v, numR p = some v := by
    intro p hp
    cases hn : numR p with
    | some v => exact ⟨v, rfl⟩
    | none => rw [rdZ_bad hp hn] at h; cases h
  have hl := splitL_pos 45 s
  rw [txK_join [45] _ _ (by rw [rdZ_len]; omega) (Nat.le_refl _), List.take_length]
  unfold rdZ
  rw [map_dd _ ha]
  exact join_splitL 45 s
/-- the words as cells -/
def Wds (w : World) (g m : Nat) (ps : List (List UInt8)) : Prop := ps.length = m ∧ ∀ k, k < m → ∃ p : ByteArray, w.cell? ⟨g, k, none⟩ = some (.string p) ∧ p.data.toList = ps.getD k [] ∧ p.data.toList ∈ ps
theorem Wds.of {w : World} {base g m c : Nat} {ps : List (List UInt8)} (h : Row w base g m c ps) : Wds w g m ps := ⟨h.len, fun _ hk => h.at_ hk⟩
theorem Wds.keep {w w' : World} {g m : Nat} {ps : List (List UInt8)} (h : Wds w g m ps) (hk : ∀ j, w'.cell? ⟨g, j, none⟩ = w.cell? ⟨g, j, none⟩) : Wds w' g m ps :=
  ⟨h.1, fun k hk' => by rw [hk k]; exact h.2 k hk'⟩
theorem Row.lt {w : World} {base g m c : Nat} {ps : List (List UInt8)} (h : Row w base g m c ps) : base ≤ g ∧ g < w.heap.size := by
  obtain ⟨W, e, h⟩ := h
  rcases h.2 with ⟨h0, _⟩ | ⟨g2, cap, cur, e2, hb2, hg, hr⟩
  · cases h0
  · injection e2 with e2
    injection e2 with e2
    injection e2 with e2
    subst e2
    exact ⟨hb2, (Array.getElem?_eq_some_iff.1 hg).1⟩
/-- the state of the loop over the words: the new wheel's box behind the result's, the numbers so far from B1 on, the words in block g below B1 -/
structure RS (w : World) (B1 g m : Nat) (ps : List (List UInt8)) (wr : World) (L : Option Addr) (k c : Nat) (zs : List Int) : Prop where
  c1 : wr.cell? ⟨w.heap.size + 1, 0, none⟩ = some (.slice L k c)
  c0 : wr.cell? ⟨w.heap.size, 0, none⟩ = some (.slice none 0 0)
  f1 : wr.frozen? ⟨w.heap.size + 1, 0, none⟩ = false
  f0 : wr.frozen? ⟨w.heap.size, 0, none⟩ = false
  z : B1 ≤ wr.heap.size
  b : w.heap.size + 2 ≤ B1
  gl : g < B1
  gg : w.heap.size + 2 ≤ g
  own : Own wr B1 L k c zs
  wds : Wds wr g m ps
  bel : Below w.heap.size w wr
theorem RS.call {w wr w2 : World} {B1 g m k c : Nat} {ps : List (List UInt8)} {L : Option Addr} {zs : List Int} (h : RS w B1 g m ps wr L k c zs) (hb : Below wr.heap.size wr w2) : RS w B1 g m ps w2 L k c zs := by
  have hz := h.z
  have hbb := h.b
  have hg := h.gl
  refine ⟨cell_call hb (by simp; omega) h.c1, cell_call hb (by simp; omega) h.c0, (hb.frozen (p := ⟨w.heap.size + 1, 0, none⟩) (by simp; omega)).trans h.f1, (hb.frozen (p := ⟨w.heap.size, 0, none⟩) (by simp; omega)).trans h.f0, Nat.le_trans hz hb.size, hbb, hg, h.gg, h.own.call hb, h.wds.keep fun j => hb.cell (by simp; omega), h.bel.trans (hb.mono (by omega))⟩
theorem RS.mid {w w2 w3 : World} {B1 g m k c : Nat} {ps : List (List UInt8)} {L : Option Addr} {zs : List Int} {o : Obj} (h : RS w B1 g m ps w2 L k c zs) (hb : Below B1 (w2.alloc o) w3) : w3.cell? ⟨w.heap.size + 1, 0, none⟩ = some (.slice L k c) ∧ w3.frozen? ⟨w.heap.size + 1, 0, none⟩ = false ∧ w.heap.size + 1 < w3.heap.size := by
  have hz := h.z
  have hbb := h.b
  refine ⟨(hb.cell (p := ⟨w.heap.size + 1, 0, none⟩) (by simp; omega)).trans ((World.cell?_alloc_lt w2 _ _ (by simp; omega)).trans h.c1), (hb.frozen (p := ⟨w.heap.size + 1, 0, none⟩) (by simp; omega)).trans ?_, ?_⟩
  · have h1 : w.heap.size + 1 < w2.heap.size := by omega
    have h2 := h.f1
    simp [go_sem, *]
  · have := hb.size; simp at this; omega
theorem RS.step {w w2 w3 : World} {B1 g m k c k' c' : Nat} {ps : List (List UInt8)} {L L' : Option Addr} {zs zs' : List Int} {o : Obj} (h : RS w B1 g m ps w2 L k c zs) (hb : Below B1 (w2.alloc o) w3) (ho : Own w3 B1 L' k' c' zs') :
    RS w B1 g m ps (w3.setCell ⟨w.heap.size + 1, 0, none⟩ (.slice L' k' c')) L' k' c' zs' := by
  have hz := h.z
  have hbb := h.b
  have hg := h.gl
  have hgg := h.gg
  have hm := h.mid hb
  have h3 : B1 ≤ w3.heap.size := by have := hb.size; simp at this; omega
  have e0 : w3.cell? ⟨w.heap.size, 0, none⟩ = some (.slice none 0 0) := (hb.cell (p := ⟨w.heap.size, 0, none⟩) (by simp; omega)).trans ((World.cell?_alloc_lt w2 _ _ (by simp; omega)).trans h.c0)
  have x0 : w3.frozen? ⟨w.heap.size, 0, none⟩ = false := (hb.frozen (p := ⟨w.heap.size, 0, none⟩) (by simp; omega)).trans (by
    have h1 : w.heap.size < w2.heap.size := by omega
    have h2 := h.f0
    simp [go_sem, *])
  refine ⟨by simp [go_sem, hm.1], by simp [go_sem, e0], by simp [go_sem, hm.2.1], by simp [go_sem, x0], by simpa using h3, hbb, hg, hgg, ho.far (by simp; omega) _, h.wds.keep fun j => ?_, ?_⟩
  · have hne : g ≠ w.heap.size + 1 := by omega
    have e1 : w3.cell? ⟨g, j, none⟩ = w2.cell? ⟨g, j, none⟩ := (hb.cell (p := ⟨g, j, none⟩) (by simp; omega)).trans (World.cell?_alloc_lt w2 _ _ (by simp; omega))
    rw [← e1]
    simp [go_sem, hne]
  · exact ((h.bel.alloc (by omega) o).trans (hb.mono (by omega))).setCell (by simp) _
/-- a call gives what the text s reads as: a new wheel and true, or the empty one and false -/
def ReadWheel (w : World) (s : List UInt8) (e : Ending) (w' : World) : Prop := ∃ A n c, e = .returned (.tuple #[.agg #[.slice A n c], .bool (vWheel (rdZ 45 s))]) ∧ Own w' w.heap.size A n c (if vWheel (rdZ 45 s) then rdZ 45 s else []) ∧ Below w.heap.size w w'
theorem read_bad {w w' : World} {s : List UInt8} (h : vWheel (rdZ 45 s) = false) (hb : Below w.heap.size w w') : ReadWheel w s (.returned (.tuple #[.agg #[.slice none 0 0], .bool false])) w' := ⟨none, 0, 0, by rw [h], by rw [h]; exact Own.nil_, hb⟩
theorem read_good {w w' : World} {s : List UInt8} {A : Option Addr} {n c : Nat} (h : vWheel (rdZ 45 s) = true) (ho : Own w' w.heap.size A n c (rdZ 45 s)) (hb : Below w.heap.size w w') : ReadWheel w s (.returned (.tuple #[.agg #[.slice A n c], .bool true])) w' := ⟨A, n, c, by rw [h], by rw [h]; exact ho, hb⟩
theorem rdZ_next {c : UInt8} {s : List UInt8} {k : Nat} (hk : k < (splitL c s).length) : (rdZ c s).take (k + 1) = (rdZ c s).take k ++ [numZ ((splitL c s).getD k [])] := by
  have hk2 : k < (rdZ c s).length := by simpa [rdZ] using hk
  rw [List.take_succ_eq_append_getElem hk2]
  congr 2
  simp only [rdZ, List.getElem_map, List.getD_eq_getElem?_getD, List.getElem?_eq_getElem hk, Option.getD_some]
set_option maxHeartbeats 4000000 in
theorem specReadCountWheel_any (s : ByteArray) (w : World) (hs : s.size ≤ 1048576) :
    Calls Tryz.prog 12 #[.string s] w fun e w' => ReadWheel w s.data.toList e w' := by
  have hsl := size_list s
  have hlen := splitL_len 45 s.data.toList
  rw [hsl] at hlen
  have HLN := Lib.hid hlen
  clear hsl hlen
  go_enter Tryz.func12, Tryz.ntmps12
  go_wp2_with (first | (go_at_call 32; refine (l01Split_any s 45 _ hs).mono ?_; rintro e w1 ⟨g, m, c, rfl, ho1, hb1⟩; have HO1 := Lib.hid ho1; have HB1 := Lib.hid hb1; clear ho1 hb1) | fail)
  have hm := HO1.out.len
  have z1 := HB1.out.size
  simp at z1
  have hgl := HO1.out.lt
  simp at hgl
  have c1 : w1.cell? ⟨w.heap.size + 1, 0, none⟩ = some (.slice none 0 0) := (HB1.out.cell (p := ⟨w.heap.size + 1, 0, none⟩) (by simp)).trans (by simp [go_sem])
  have c0 : w1.cell? ⟨w.heap.size, 0, none⟩ = some (.slice none 0 0) := (HB1.out.cell (p := ⟨w.heap.size, 0, none⟩) (by simp; omega)).trans (by simp [go_sem])
  have f1 : w1.frozen? ⟨w.heap.size + 1, 0, none⟩ = false := (HB1.out.frozen (p := ⟨w.heap.size + 1, 0, none⟩) (by simp)).trans (by simp [go_sem])
  have f0 : w1.frozen? ⟨w.heap.size, 0, none⟩ = false := (HB1.out.frozen (p := ⟨w.heap.size, 0, none⟩) (by simp; omega)).trans (by simp [go_sem])
  have hb0 : Below w.heap.size w w1 := by
    have hb1 := HB1.out
    (repeat (first | with_reducible exact Below.refl _ _ | with_reducible refine below_alloc ?_ _ | with_reducible refine below_drewN ?_ _ | with_reducible refine Below.drew ?_ | ((with_reducible refine below_set ?_ ?_ _); rotate_left; (focus (first | (simp; done) | (simp; omega) | omega))) | with_reducible refine below_call ?_ (by assumption)))
  have R0 : Hid (RS w w1.heap.size g m (splitL 45 s.data.toList) w1 none 0 0 []) := Lib.hid ⟨c1, c0, f1, f0, Nat.le_refl _, by omega, by omega, by omega, Own.nil_, Wds.of HO1.out, hb0⟩
  have hm2 : m ≤ 1048577 := by have := HLN.out; omega
  have HM := Lib.hid hm
  clear c1 c0 f1 f0 hb0 hm z1 hgl HO1 HB1 HLN
  go_loopw [6] (fun t wr => ∃ (k c2 : Nat) (L : Option Addr), t = .int .i64 k ∧ k ≤ m ∧ Hid (RS w w1.heap.size g m (splitL 45 s.data.toList) wr L k c2 ((rdZ 45 s.data.toList).take k))) (fun t _ => m - (intOf t).toNat)
  case atStart => exact ⟨0, 0, none, rfl, Nat.zero_le _, R0⟩
  case round =>
    obtain ⟨k, c2, L, rfl, hk, RR⟩ := hrel
    have hr1 := RR.out.c1
    have hr0 := RR.out.c0
    have hrf0 := RR.out.f0
    have hrf1 := RR.out.f1
    have hz0 : w.heap.size < wr.heap.size := by have := RR.out.z; have := RR.out.b; omega
    have hz1 : w.heap.size + 1 < wr.heap.size := by have := RR.out.z; have := RR.out.b; omega
    have i0 : (0 : Int) ≤ (k : Int) := Int.natCast_nonneg _
    by_cases hlt : k < m
    · have i1 : (k : Int) < (m : Int) := by omega
      obtain ⟨p, hp, hp2, hp3⟩ := RR.out.wds.2 k hlt
      have hno := head_none (splitL_none 45 _ _ hp3)
      have hnx := rdZ_next (c := 45) (s := s.data.toList) (k := k) (by rw [HM.out]; exact hlt)
      rw [← hp2] at hnx
      have HNO := Lib.hid hno
      cases hn : numR p.data.toList with
      | none =>
        have HBAD := Lib.hid (rdZ_bad hp3 hn)
        have HN := Lib.hid (numT_none hn)
        have HBl := Lib.hid RR.out.bel
        clear hno hnx hp2 hp3 hn RR
        go_wp2_with (first | (go_at_call 33; refine (l01Number_any p _ HNO.out).mono ?_; rintro e w2 ⟨rfl, hb2⟩; rw [HN.out]; have hcc0 := cell_call hb2 (p := ⟨w.heap.size, 0, none⟩) (by simpa using hz0) hr0; have hff0 := (hb2.frozen (p := ⟨w.heap.size, 0, none⟩) (by simpa using hz0)).trans hrf0; have hzz0 := lt_call hb2 hz0; have HB2 := Lib.hid (HBl.out.trans (hb2.mono (by omega))); clear hb2) | fail)
        refine bodyPost_ret (v := .tuple #[.agg #[.slice none 0 0], .bool false]) (by simp [results, Tryz.results12, go_sem, *]) rfl (read_bad HBAD.out (below_set HB2.out (by simp) _))
      | some v =>
        have HN := Lib.hid (numT_some hn)
        have HNX := Lib.hid (show (rdZ 45 s.data.toList).take (k + 1) = (rdZ 45 s.data.toList).take k ++ [(v : Int)] by rw [hnx, numZ_ok hn])
        clear hno hnx hp2 hp3 hn
        go_wp2_with (first | (go_at_call 33; refine (l01Number_any p _ HNO.out).mono ?_; rintro e w2 ⟨rfl, hb2⟩; rw [HN.out]; have R2 := Lib.hid (RR.out.call hb2); clear hb2; have hq1 := R2.out.c1; have hqf1 := R2.out.f1; have hqz : w.heap.size + 1 < w2.heap.size := (by have := R2.out.z; have := R2.out.b; omega)) | (at_builtin; refine wpList_app rfl _ _ rfl _ w1.heap.size _ _ _ _ rfl (R2.out.own.alloc _) w2.heap.size rfl (v : Int) (by simp [go_sem]) (by omega) (by have := R2.out.z; simp; omega) ?_; intro L2 c3 w3 ho3 hb3; obtain ⟨m1, m2, m3⟩ := R2.out.mid hb3; have R3 := Lib.hid (R2.out.step hb3 ho3); clear ho3 hb3) | fail)
        go_roundw
        case rel => exact ⟨k + 1, c3, L2, by go_num, by omega, by rw [HNX.out]; exact R3⟩
        case measure => simp [intOf]; omega
    · obtain rfl : k = m := by omega
      have ht : (rdZ 45 s.data.toList).take k = rdZ 45 s.data.toList := List.take_of_length_le (by rw [rdZ_len, HM.out]; exact Nat.le_refl _)
      have RT : Hid (RS w w1.heap.size g k (splitL 45 s.data.toList) wr L k c2 (rdZ 45 s.data.toList)) := Lib.hid (by rw [← ht]; exact RR.out)
      clear ht RR
      have HBl := Lib.hid RT.out.bel
      cases hv : vWheel (rdZ 45 s.data.toList)
      · have HV := Lib.hid hv
        clear hv
        go_wp2_with (first | (go_at_call 34; refine (l20Ok_any' L k c2 wr.heap.size (rdZ 45 s.data.toList) _ (RT.out.own.ints (Nat.le_refl _)) (Nat.le_refl _) hm2).mono ?_; rintro e w2 ⟨rfl, hb2⟩; rw [HV.out]; have hcc0 := cell_call hb2 (p := ⟨w.heap.size, 0, none⟩) (by simpa using hz0) hr0; have hff0 := (hb2.frozen (p := ⟨w.heap.size, 0, none⟩) (by simpa using hz0)).trans hrf0; have hzz0 := lt_call hb2 hz0; have HB2 := Lib.hid (HBl.out.trans (hb2.mono (by omega))); clear hb2) | fail)
        refine bodyPost_ret (v := .tuple #[.agg #[.slice none 0 0], .bool false]) (by simp [results, Tryz.results12, go_sem, *]) rfl (read_bad HV.out (below_set HB2.out (by simp) _))
      · have HV := Lib.hid hv
        clear hv
        go_wp2_with (first | (go_at_call 34; refine (l20Ok_any' L k c2 wr.heap.size (rdZ 45 s.data.toList) _ (RT.out.own.ints (Nat.le_refl _)) (Nat.le_refl _) hm2).mono ?_; rintro e w2 ⟨rfl, hb2⟩; rw [HV.out]; have hcc0 := cell_call hb2 (p := ⟨w.heap.size, 0, none⟩) (by simpa using hz0) hr0; have hff0 := (hb2.frozen (p := ⟨w.heap.size, 0, none⟩) (by simpa using hz0)).trans hrf0; have hzz0 := lt_call hb2 hz0; have hcc1 := cell_call hb2 (p := ⟨w.heap.size + 1, 0, none⟩) (by simpa using hz1) hr1; have R2 := Lib.hid (RT.out.call hb2); clear hb2) | fail)
        refine bodyPost_ret (v := .tuple #[.agg #[.slice L k c2], .bool true]) (by simp [results, Tryz.results12, go_sem, *]) rfl (read_good HV.out ?_ (below_set R2.out.bel (by simp) _))
        exact (R2.out.own.far (p := ⟨w.heap.size, 0, none⟩) (by have := R2.out.b; simp; omega) _).low (by have := R2.out.b; omega)
set_option maxHeartbeats 4000000 in
theorem ReadCountWheel_any (s : ByteArray) (mx : Int) (w : World) (hs : s.size ≤ 1048576) (LY : Lays w mx) :
    Calls Tryz.prog 10 #[.string s] w fun e w' => ReadWheel w s.data.toList e w' := by
  have hsl := size_list s
  have hlen := splitL_len 45 s.data.toList
  rw [hsl] at hlen
  have HLN := Lib.hid hlen
  have LL := Lib.hid LY
  clear hsl hlen LY
  go_enter Tryz.func10, Tryz.ntmps10
  go_wp2_with (first | (go_at_call 26; refine (Split_any s 45 mx _ hs (LL.out.keep (by (repeat (first | with_reducible exact Below.refl _ _ | with_reducible refine below_alloc ?_ _ | with_reducible refine below_drewN ?_ _ | with_reducible refine Below.drew ?_ | ((with_reducible refine below_set ?_ ?_ _); rotate_left; (focus (first | (simp; done) | (simp; omega) | omega))) | with_reducible refine below_call ?_ (by assumption))))).here.2.2.2).mono ?_; rintro e w1 ⟨g, m, c, rfl, ho1, hb1⟩; have HO1 := Lib.hid ho1; have HB1 := Lib.hid hb1; clear ho1 hb1) | fail)
  have hm := HO1.out.len
  have z1 := HB1.out.size
  simp at z1
  have hgl := HO1.out.lt
  simp at hgl
  have c1 : w1.cell? ⟨w.heap.size + 1, 0, none⟩ = some (.slice none 0 0) := (HB1.out.cell (p := ⟨w.heap.size + 1, 0, none⟩) (by simp)).trans (by simp [go_sem])
  have c0 : w1.cell? ⟨w.heap.size, 0, none⟩ = some (.slice none 0 0) := (HB1.out.cell (p := ⟨w.heap.size, 0, none⟩) (by simp; omega)).trans (by simp [go_sem])
  have f1 : w1.frozen? ⟨w.heap.size + 1, 0, none⟩ = false := (HB1.out.frozen (p := ⟨w.heap.size + 1, 0, none⟩) (by simp)).trans (by simp [go_sem])
  have f0 : w1.frozen? ⟨w.heap.size, 0, none⟩ = false := (HB1.out.frozen (p := ⟨w.heap.size, 0, none⟩) (by simp; omega)).trans (by simp [go_sem])
  have hb0 : Below w.heap.size w w1 := by
    have hb1 := HB1.out
    (repeat (first | with_reducible exact Below.refl _ _ | with_reducible refine below_alloc ?_ _ | with_reducible refine below_drewN ?_ _ | with_reducible refine Below.drew ?_ | ((with_reducible refine below_set ?_ ?_ _); rotate_left; (focus (first | (simp; done) | (simp; omega) | omega))) | with_reducible refine below_call ?_ (by assumption)))
  have R0 : Hid (RS w w1.heap.size g m (splitL 45 s.data.toList) w1 none 0 0 []) := Lib.hid ⟨c1, c0, f1, f0, Nat.le_refl _, by omega, by omega, by omega, Own.nil_, Wds.of HO1.out, hb0⟩
  have hm2 : m ≤ 1048577 := by have := HLN.out; omega
  have HM := Lib.hid hm
  clear c1 c0 f1 f0 hb0 hm z1 hgl HO1 HB1 HLN
  go_wp2_with fail
  go_loopw [12, 6, 7, 8] (fun t _ _ _ wr => ∃ (k c2 : Nat) (L : Option Addr), t = .int .i64 k ∧ k ≤ m ∧ Hid (RS w w1.heap.size g m (splitL 45 s.data.toList) wr L k c2 ((rdZ 45 s.data.toList).take k))) (fun t _ _ _ _ => m - (intOf t).toNat)
  case atStart => exact ⟨0, 0, none, rfl, Nat.zero_le _, R0⟩
  case round =>
    obtain ⟨k, c2, L, rfl, hk, RR⟩ := hrel
    have hr1 := RR.out.c1
    have hr0 := RR.out.c0
    have hrf0 := RR.out.f0
    have hrf1 := RR.out.f1
    have hz0 : w.heap.size < wr.heap.size := by have := RR.out.z; have := RR.out.b; omega
    have hz1 : w.heap.size + 1 < wr.heap.size := by have := RR.out.z; have := RR.out.b; omega
    have i0 : (0 : Int) ≤ (k : Int) := Int.natCast_nonneg _
    by_cases hlt : k < m
    · have i1 : (k : Int) < (m : Int) := by omega
      obtain ⟨p, hp, hp2, hp3⟩ := RR.out.wds.2 k hlt
      have hno := head_none (splitL_none 45 _ _ hp3)
      have hnx := rdZ_next (c := 45) (s := s.data.toList) (k := k) (by rw [HM.out]; exact hlt)
      rw [← hp2] at hnx
      have HNO := Lib.hid hno
      obtain ⟨v, ok, hN, hv⟩ : ∃ (v : Nat) (ok : Bool), numT p.data.toList = .tuple #[.int .i64 (v : Int), .bool ok] ∧ numZ p.data.toList = (v : Int) := by
        cases hn : numR p.data.toList with
        | none => exact ⟨0, false, numT_none hn, numZ_bad hn⟩
        | some v => exact ⟨v, true, numT_some hn, numZ_ok hn⟩
      have HN := Lib.hid hN
      have HNX := Lib.hid (show (rdZ 45 s.data.toList).take (k + 1) = (rdZ 45 s.data.toList).take k ++ [(v : Int)] by rw [hnx, hv])
      clear hno hnx hp2 hp3 hN hv
      go_wp2_with (first | (go_at_call 27; refine (ReadDecimal_any p mx _ HNO.out (LL.out.keep RR.out.bel)).mono ?_; rintro e w2 ⟨rfl, hb2⟩; rw [HN.out]; have R2 := Lib.hid (RR.out.call hb2); clear hb2; have hq1 := R2.out.c1; have hqf1 := R2.out.f1; have hqz : w.heap.size + 1 < w2.heap.size := (by have := R2.out.z; have := R2.out.b; omega)) | (at_builtin; refine wpList_app rfl _ _ rfl _ w1.heap.size _ _ _ _ rfl (R2.out.own.alloc _) w2.heap.size rfl (v : Int) (by simp [go_sem]) (by omega) (by have := R2.out.z; simp; omega) ?_; intro L2 c3 w3 ho3 hb3; obtain ⟨m1, m2, m3⟩ := R2.out.mid hb3; have R3 := Lib.hid (R2.out.step hb3 ho3); clear ho3 hb3) | fail)
      go_roundw
      case rel => exact ⟨k + 1, c3, L2, by go_num, by omega, by rw [HNX.out]; exact R3⟩
      case measure => simp [intOf]; omega
    · obtain rfl : k = m := by omega
      have ht : (rdZ 45 s.data.toList).take k = rdZ 45 s.data.toList := List.take_of_length_le (by rw [rdZ_len, HM.out]; exact Nat.le_refl _)
      have RT : Hid (RS w w1.heap.size g k (splitL 45 s.data.toList) wr L k c2 (rdZ 45 s.data.toList)) := Lib.hid (by rw [← ht]; exact RR.out)
      clear ht RR
      have HBl := Lib.hid RT.out.bel
      cases hv : vWheel (rdZ 45 s.data.toList)
      · have HV := Lib.hid hv
        clear hv
        go_wp2_with (first | (go_at_call 19; refine (ValidCountWheel_any' L k c2 wr.heap.size (rdZ 45 s.data.toList) _ (RT.out.own.ints (Nat.le_refl _)) (Nat.le_refl _) hm2).mono ?_; rintro e w2 ⟨rfl, hb2⟩; rw [HV.out]; have hcc0 := cell_call hb2 (p := ⟨w.heap.size, 0, none⟩) (by simpa using hz0) hr0; have hff0 := (hb2.frozen (p := ⟨w.heap.size, 0, none⟩) (by simpa using hz0)).trans hrf0; have hzz0 := lt_call hb2 hz0; have HB2 := Lib.hid (HBl.out.trans (hb2.mono (by omega))); clear hb2) | fail)
        refine bodyPost_ret (v := .tuple #[.agg #[.slice none 0 0], .bool false]) (by simp [results, Tryz.results10, go_sem, *]) rfl (read_bad HV.out (below_set HB2.out (by simp) _))
      · have hkl : (rdZ 45 s.data.toList).length = k := by rw [rdZ_len, HM.out]
        have hk24 : k ≤ 1048576 := by have := (vWheel_yes hv).2.2; omega
        have hwt : wtx (rdZ 45 s.data.toList) = s.toList := by rw [wtx, if_pos hv, rdZ_text hv, ByteArray.toList_eq s]
        have HV := Lib.hid hv
        have HWT := Lib.hid hwt
        clear hv hwt
        go_wp2_with (first | (go_at_call 19; refine (ValidCountWheel_any' L k c2 wr.heap.size (rdZ 45 s.data.toList) _ (RT.out.own.ints (Nat.le_refl _)) (Nat.le_refl _) hm2).mono ?_; rintro e w2 ⟨rfl, hb2⟩; rw [HV.out]; have R2 := Lib.hid (RT.out.call hb2); clear hb2; have hq1 := R2.out.c1) | (go_at_call 9; refine (CountWheelText_any L k c2 w2.heap.size (rdZ 45 s.data.toList) _ (R2.out.own.ints (Nat.le_refl _)) (Nat.le_refl _) hk24).mono ?_; rintro e w3 ⟨rfl, hb3⟩; have R3 := Lib.hid (R2.out.call hb3); clear hb3; rw [HWT.out]; have hcc0 := R3.out.c0; have hff0 := R3.out.f0; have hcc1 := R3.out.c1; have hzz0 : w.heap.size < w3.heap.size := (by have := R3.out.z; have := R3.out.b; omega)) | fail)
        refine bodyPost_ret (v := .tuple #[.agg #[.slice L k c2], .bool true]) (by simp [results, Tryz.results10, go_sem, *]) rfl (read_good HV.out ?_ (below_set R3.out.bel (by simp) _))
        exact (R3.out.own.far (p := ⟨w.heap.size, 0, none⟩) (by have := R3.out.b; simp; omega) _).low (by have := R3.out.b; omega)
end Go.Proofs.YtajcbppndkkbpaaGreatDoor
