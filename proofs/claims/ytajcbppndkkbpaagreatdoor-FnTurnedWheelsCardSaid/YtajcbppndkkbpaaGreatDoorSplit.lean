/- Contracts of the two splits of a text into words. No conditions but that the text has at most 2^20 bytes. -/
import Derived.Test.YtajcbppndkkbpaaGreatDoorTextWheel
import Derived.Test.YtajcbppndkkbpaaGreatDoorWords
namespace Go.Proofs.YtajcbppndkkbpaaGreatDoor
open Go.RowKit
set_option linter.unusedVariables false
set_option linter.unusedSimpArgs false
/-- what the rest of a text comes to, behind the word cur -/
def contL (c : UInt8) (cur rest : List UInt8) : List (List UInt8) := match splitL c rest with
  | [] => [cur]
  | h :: t => (cur ++ h) :: t
theorem contL_end (c : UInt8) (cur : List UInt8) : contL c cur [] = [cur] := by simp [contL, splitL]
theorem contL_hit (c : UInt8) (cur r : List UInt8) : contL c cur (c :: r) = cur :: contL c [] r := by
  obtain ⟨h, t, e⟩ := splitL_some c r
  simp [contL, splitL, e]
theorem contL_miss (c b : UInt8) (cur r : List UInt8) (hb : b ≠ c) : contL c cur (b :: r) = contL c (cur ++ [b]) r := by
  obtain ⟨h, t, e⟩ := splitL_some c r
  simp [contL, splitL, e, hb]
theorem contL_start (c : UInt8) (s : List UInt8) : contL c [] s = splitL c s := by
  obtain ⟨h, t, e⟩ := splitL_some c s
  simp [contL, e]
/-- a row of words -/
def Row (w : World) (base g m c : Nat) (ps : List (List UInt8)) : Prop := ∃ W : List ByteArray, W.map (·.data.toList) = ps ∧ w.ownsRow base 9 1 (.slice (some ⟨g, 0, none⟩) m c) m (W.map Value.string)
theorem Row.len {w : World} {base g m c : Nat} {ps : List (List UInt8)} (h : Row w base g m c ps) : ps.length = m := by
  obtain ⟨W, rfl, h⟩ := h
  have := h.1
  simp at this ⊢; omega
theorem Row.at_ {w : World} {base g m c k : Nat} {ps : List (List UInt8)} (h : Row w base g m c ps) (hk : k < m) : ∃ p : ByteArray, w.cell? ⟨g, k, none⟩ = some (.string p) ∧ p.data.toList = ps.getD k [] ∧ p.data.toList ∈ ps := by
  have hl := h.len
  obtain ⟨W, rfl, h⟩ := h
  have hW : k < W.length := by have := hl; simp at this; omega
  refine ⟨W[k], ?_, ?_, ?_⟩
  · rw [World.ownsRow.cellAt h k (by omega), List.getElem?_map, List.getElem?_eq_getElem hW]; rfl
  · rw [List.getD_eq_getElem?_getD, List.getElem?_map, List.getElem?_eq_getElem hW]; rfl
  · exact List.mem_map.2 ⟨W[k], List.getElem_mem hW, rfl⟩
theorem Row.keep {w w' : World} {base g m c : Nat} {ps : List (List UInt8)} (h : Row w base g m c ps) (hb : Below w.heap.size w w') : Row w' base g m c ps := by
  obtain ⟨W, e, h⟩ := h
  refine ⟨W, e, h.1, ?_⟩
  rcases h.2 with h0 | ⟨g2, cap, cur, e2, hb2, hg, hr⟩
  · exact .inl h0
  · exact .inr ⟨g2, cap, cur, e2, hb2, by rw [hb.block g2 (Array.getElem?_eq_some_iff.1 hg).1]; exact hg, hr⟩
theorem ext_at {s : ByteArray} {k : Nat} (hk : k < s.size) : s.data.toList.drop k = s[k] :: s.data.toList.drop (k + 1) := by
  have h : k < s.data.toList.length := by simpa using hk
  rw [List.drop_eq_getElem_cons h]; rfl
theorem ext_cur {s : ByteArray} {f k : Nat} (hf : f ≤ k) (hk : k < s.size) : (s.data.toList.drop f).take (k + 1 - f) = (s.data.toList.drop f).take (k - f) ++ [s[k]] := by
  have h : k - f < (s.data.toList.drop f).length := by
    have : s.data.toList.length = s.size := by simp
    rw [List.length_drop]; omega
  rw [show k + 1 - f = (k - f) + 1 by omega, List.take_succ_eq_append_getElem h, List.getElem_drop]
  congr 2
  have : f + (k - f) = k := by omega
  simp only [this]; rfl
set_option maxHeartbeats 4000000 in
theorem l01Split_any (s : ByteArray) (c : UInt8) (w : World) (hs : s.size ≤ 1048576) :
    Calls Tryz.prog 32 #[.string s, .int .u8 (c.toNat : Int)] w fun e w' => ∃ g m c', e = .returned (.slice (some ⟨g, 0, none⟩) m c') ∧ Row w' w.heap.size g m c' (splitL c s.data.toList) ∧ Below w.heap.size w w' := by
  go_enter Tryz.func32, Tryz.ntmps32
  go_wp2
  go_loopw [5, 6, 7] (fun l x t wr => ∃ (k f m c' g : Nat) (D : List (List UInt8)), t = .int .i64 k ∧ x = .int .i64 f ∧ f ≤ k ∧ k ≤ s.size ∧ l = .slice (some ⟨g, 0, none⟩) m c' ∧ m ≤ k ∧ Hid (D ++ contL c ((s.data.toList.drop f).take (k - f)) (s.data.toList.drop k) = splitL c s.data.toList) ∧ Hid (Row wr w.heap.size g m c' D) ∧ Below w.heap.size w wr) (fun _ _ t _ => s.size - (intOf t).toNat)
  case atStart => exact ⟨0, 0, 0, 0, _, [], rfl, rfl, Nat.le_refl _, Nat.zero_le _, rfl, Nat.le_refl _, Lib.hid (by simpa using contL_start c s.data.toList), Lib.hid ⟨[], rfl, World.ownsRow_lit w #[] 0 (Nat.le_refl _) (Nat.zero_le _) (by simp)⟩, (Below.refl _ _).alloc (Nat.le_refl _) _⟩
  case round =>
    obtain ⟨k, f, m, c', g, D, rfl, rfl, hf, hk, rfl, hm, he, ho, hB⟩ := hrel
    have zr := hB.size
    have HB := Lib.hid hB
    clear hB
    have i0 : (0 : Int) ≤ (k : Int) := Int.natCast_nonneg _
    have i2 : (0 : Int) ≤ (f : Int) := Int.natCast_nonneg _
    have i3 : (f : Int) ≤ (k : Int) := by omega
    have i4 : (k : Int) ≤ (s.size : Int) := by omega
    have i5 : (f : Int) ≤ (s.size : Int) := by omega
    by_cases hlt : k < s.size
    · have i1 : (k : Int) < (s.size : Int) := by omega
      obtain ⟨b, hb⟩ : ∃ b, s[k] = b := ⟨_, rfl⟩
      have HX := Lib.hid (ext_at hlt)
      have HC := Lib.hid (ext_cur hf hlt)
      rw [hb] at HX HC
      by_cases hbc : b = c
      · have hE := Lib.hid (show (D ++ [(s.extract f k).data.toList]) ++ contL c ((s.data.toList.drop (k + 1)).take (k + 1 - (k + 1))) (s.data.toList.drop (k + 1)) = splitL c s.data.toList by
          rw [← he.out, HX.out, hbc, contL_hit, Lib.extract_data]; simp)
        have q1 : ((b.toNat : Int) == (c.toNat : Int)) = true := by rw [hbc]; simp
        have q2 : b.toNat = c.toNat := by rw [hbc]
        obtain ⟨W, hW, hO⟩ := ho.out
        have HO := Lib.hid hO
        have HW := Lib.hid hW
        clear hbc hO hW
        go_wp2_with (first | (at_builtin; refine wpList_appT rfl _ _ rfl _ w.heap.size _ _ _ _ rfl (World.ownsRow.alloc HO.out _) wr.heap.size rfl (s.extract f k) (by simp [go_sem]) (by omega) (by simp; omega) ?_; intro g2 c2 w2 ho2 hb2; have HO2 : Hid (Row w2 w.heap.size g2 (m + 1) c2 (D ++ [(s.extract f k).data.toList])) := Lib.hid ⟨W ++ [s.extract f k], by rw [List.map_append, HW.out]; rfl, by rw [List.map_append]; exact ho2⟩; have HB2 := Lib.hid ((HB.out.alloc zr _).trans hb2); clear ho2 hb2) | fail)
        go_roundw
        case rel => exact ⟨k + 1, k + 1, m + 1, c2, g2, _, by go_num, by go_num, Nat.le_refl _, by omega, rfl, by omega, hE, HO2, HB2.out⟩
        case measure => simp [intOf]; omega
      · have hE := Lib.hid (show D ++ contL c ((s.data.toList.drop f).take (k + 1 - f)) (s.data.toList.drop (k + 1)) = splitL c s.data.toList by
          rw [← he.out, HX.out, contL_miss c b _ _ hbc, HC.out])
        have q2 : ¬ (b.toNat = c.toNat) := fun e => hbc (UInt8.toNat_inj.1 e)
        have q3 : ¬ ((b.toNat : Int) = (c.toNat : Int)) := by omega
        have q1 : ((b.toNat : Int) == (c.toNat : Int)) = false := by simpa using q3
        clear hbc
        go_wp2
        go_roundw
        case rel => exact ⟨k + 1, f, m, c', g, D, by go_num, rfl, by omega, by omega, rfl, by omega, hE, ho, HB.out⟩
        case measure => simp [intOf]; omega
    · have hks : k = s.size := by omega
      have hE := Lib.hid (show D ++ [(s.extract f s.size).data.toList] = splitL c s.data.toList by
        rw [← he.out, hks, Lib.extract_data]
        have h0 : s.data.toList.drop s.size = [] := List.drop_eq_nil_of_le (by simp)
        rw [h0, contL_end])
      obtain ⟨W, hW, hO⟩ := ho.out
      have HO := Lib.hid hO
      have HW := Lib.hid hW
      clear hO hW hks
      go_wp2_with (first | (at_builtin; refine wpList_appT rfl _ _ rfl _ w.heap.size _ _ _ _ rfl (World.ownsRow.alloc HO.out _) wr.heap.size rfl (s.extract f s.size) (by simp [go_sem]) (by omega) (by simp; omega) ?_; intro g2 c2 w2 ho2 hb2; have HO2 : Hid (Row w2 w.heap.size g2 (m + 1) c2 (D ++ [(s.extract f s.size).data.toList])) := Lib.hid ⟨W ++ [s.extract f s.size], by rw [List.map_append, HW.out]; rfl, by rw [List.map_append]; exact ho2⟩; have HB2 := Lib.hid ((HB.out.alloc zr _).trans hb2); clear ho2 hb2) | fail)
      go_ret
      exact ⟨g2, m + 1, c2, rfl, by rw [← hE.out]; exact HO2.out, HB2.out⟩
/-- the library's split -/
theorem Split_any (s : ByteArray) (c : UInt8) (m : Int) (w : World) (hs : s.size ≤ 1048576) (hm : w.cell? ⟨1, 0, none⟩ = some (.int .i64 m)) :
    Calls Tryz.prog 26 #[.string s, .string ⟨#[c]⟩] w fun e w' => ∃ g m c', e = .returned (.slice (some ⟨g, 0, none⟩) m c') ∧ Row w' w.heap.size g m c' (splitL c s.data.toList) ∧ Below w.heap.size w w' := by
  have h1 : 1 ≤ (⟨#[c]⟩ : ByteArray).size := Nat.le_refl _
  refine (Tryz.strings_Split s ⟨#[c]⟩ m w (by omega) hm h1).mono ?_
  rintro e w' ⟨rfl, rfl⟩
  have hl := Lib.splitB_all ⟨#[c]⟩ h1 0 _ s rfl
  have hd := Lib.splitB_data ⟨#[c]⟩ 0 (Lib.countB s ⟨#[c]⟩) s
  have he : Lib.splitK [c] 0 (Lib.countB s ⟨#[c]⟩) s.data.toList = splitL c s.data.toList := splitK_eq c s.data.toList
  have hcle := Lib.countB_le ⟨#[c]⟩ h1 s.size s (Nat.le_refl _)
  refine ⟨_, _, _, rfl, ⟨Lib.splitB ⟨#[c]⟩ 0 (Lib.countB s ⟨#[c]⟩) s, by rw [hd]; exact he, ?_⟩, (Below.refl _ _).alloc (Nat.le_refl _) _⟩
  have := World.ownsRow_lit (e := 9) (size := 1) (base := w.heap.size) w ((Lib.splitB ⟨#[c]⟩ 0 (Lib.countB s ⟨#[c]⟩) s).map Value.string).toArray (Lib.countB s ⟨#[c]⟩ + 1) (Nat.le_refl _) (by unfold maxLen; omega) (by simp [hl])
  simpa using this
end Go.Proofs.YtajcbppndkkbpaaGreatDoor
