/- The draw of a count wheel, with bounds of its numbers. No conditions but that the bytes lie apart from the source. -/
import Derived.Test.YtajcbppndkkbpaaGreatDoorWhSt
import Derived.Test.YtajcbppndkkbpaaGreatDoorHourWheel
import Derived.Test.YtajcbppndkkbpaaGreatDoorApp2
import Derived.Deep.RegionLaw
namespace Go.Proofs.YtajcbppndkkbpaaGreatDoor
open Go.RowKit
set_option linter.unusedVariables false
set_option linter.unusedSimpArgs false
set_option maxRecDepth 8000
/-- numbers of at most three digits -/
def Bz (zs : List Int) : Prop := ∀ x ∈ zs, 0 ≤ x ∧ x ≤ 100
theorem bz_nil : Bz [] := fun _ h => by cases h
theorem bz_snoc {zs : List Int} {y : Int} (h : Bz zs) (h1 : 0 ≤ y) (h2 : y ≤ 100) : Bz (zs ++ [y]) := fun x hx => by
  rcases List.mem_append.1 hx with hx | hx
  · exact h x hx
  · have := List.mem_singleton.1 hx
    omega
theorem bz_set {zs : List Int} {y : Int} (k : Nat) (h : Bz zs) (h1 : 0 ≤ y) (h2 : y ≤ 100) : Bz (zs.set k y) := fun x hx => by
  rcases List.mem_or_eq_of_mem_set hx with hx | hx
  · exact h x hx
  · omega
theorem bz_hw (b : Bool) : Bz (hwL b 12) := by
  cases b <;> (intro x hx; simp [hwL] at hx; omega)
theorem Bz.at {zs : List Int} (h : Bz zs) (j : Nat) (hj : j < zs.length) : 0 ≤ zs.getD j 0 ∧ zs.getD j 0 < 1000 := by
  rw [getD_of hj]
  have := h _ (List.getElem_mem hj)
  omega
/-- a draw of a struct of one slice, of at least lo elements, each small -/
def DrawnRowB (lo : Nat) (w : World) (g : Nat) (A : Option Addr) (n c : Nat) (K : Int) (e : Ending) (w' : World) : Prop :=
  ∃ (L : Option Addr) (m d : Nat) (zs : List Int), e = .returned (.agg #[.slice L m d]) ∧ lo ≤ m ∧ m ≤ 100 ∧ Own w' w.heap.size L m d zs ∧ Src w' g A n c K ∧ w.grownBy w' (some g) ∧ Bz zs
theorem WhSt.doneB {w wr : World} {g p q n c m d : Nat} {A L : Option Addr} {K K1 : Int} {zs : List Int} {lo : Nat} (h : WhSt w wr g p q A n c K L m d zs) (hz : Bz zs) (hg : g < w.heap.size) (hlo : lo ≤ m) (hm : m ≤ 100) (hK : K ≤ K1) : DrawnRowB lo w g A n c K1 (.returned (.agg #[.slice L m d])) (wr.setCell ⟨w.heap.size, 0, none⟩ (.slice L m d)) := by
  obtain ⟨h1, h2, h3, h4, h5, h6, h7, h8, h9, ha, hq⟩ := h
  exact ⟨L, m, d, zs, rfl, hlo, hm, (h7.far (p := ⟨w.heap.size, 0, none⟩) (by simpa using hq) _).low (by omega), Src.set (h1.more hK) (by simp; omega) _, only_setCell h2 (.inr (by simp)) _, hz⟩
theorem hwL_lo (hf : Bool) : ∀ k, k ≤ (hwL hf k).length
  | 0 => by simp
  | k + 1 => by
    have := hwL_lo hf k
    cases hf
    · rw [hwL_no, List.length_append]; simp; omega
    · rw [hwL_yes, List.length_append, List.length_append]; simp; omega
set_option maxHeartbeats 8000000 in
theorem l20Draw_bnd (A : Option Addr) (n c B g : Nat) (K : Int) (w : World) (h : Src w g A n c K) (hb : Byts w B A n) (hBg : B ≤ g) (hBw : B ≤ w.heap.size) (hn : n ≤ 4096) (hK : K ≤ 700000000) :
    Calls Tryz.prog 55 #[.pointer (some ⟨g, 0, none⟩)] w (DrawnRowB 1 w g A n c (K + 60)) := by
  have l0 := h.lt
  have HB0 := Lib.hid hb
  have HBY := Lib.hid (fun (W : World) (hg : w.grownBy W (some g)) => HB0.out.only hBw hg hBg)
  have H0 := Lib.hid (h.alloc (.cells #[.slice none 0 0] 26))
  have G0 := Lib.hid (only_alloc (World.grownBy.refl w (some g)) (.cells #[.slice none 0 0] 26))
  clear h hb
  go_enter Tryz.func55, Tryz.ntmps55
  go_wp2_with fail
  go_at_call 35
  refine (one_any A n c B g K 3 _ H0.out (HBY.out _ G0.out) hBg hn (by omega) (by omega)).mono ?_
  rintro e w1 ⟨v, ⟨b, rfl⟩, rfl, hs1, hq1⟩
  have z1 := hq1.size
  (try simp at z1)
  have x1 : w1.cell? ⟨w.heap.size, 0, none⟩ = some (.slice none 0 0) := hq1.cell (by simp [go_sem]) (by simp; omega)
  have f1 : ∀ o, w1.frozen? ⟨w.heap.size, o, none⟩ = false := frozen_only hq1 (by simp) (by omega) (fun o => by simp [go_sem])
  have S1 := Lib.hid hs1
  have G1 := Lib.hid (G0.out.trans hq1)
  clear hs1 hq1
  cases b
  · have C1 := Lib.hid (WhSt.new S1.out G1.out x1 f1 (Own.nil_ (base := w1.heap.size + 1)) (by omega) (by omega) 26)
    go_wp2_with fail
    go_at_call 36
    refine (pick_any A n c B g (K + 2) 9 _ C1.out.1 (HBY.out _ C1.out.2.1) hBg hn (by omega) (by omega)).mono ?_
    rintro e w2 ⟨v, ⟨y, rfl, y0, y1⟩, rfl, hs2, hq2⟩
    have C2 := Lib.hid (C1.out.draw l0 hs2 hq2)
    rw [if_neg (by omega)] at y1
    obtain ⟨y, rfl⟩ := Int.eq_ofNat_of_zero_le y0
    obtain ⟨k0, hk0⟩ : ∃ k0, 1 + y = k0 := ⟨_, rfl⟩
    have k1 : 1 ≤ k0 := by omega
    have k2 : k0 ≤ 9 := by omega
    have hpw : w.heap.size < w1.heap.size := by omega
    clear hs2 hq2 x1 f1 S1 G1 C1 z1
    go_wp2
    generalize w1.heap.size = p at *
    have hpw2 : ¬ (w.heap.size = p) := by omega
    go_loopw [4] (fun t wr => ∃ (j m d : Nat) (L : Option Addr) (zs : List Int), t = .int .i64 (j : Int) ∧ m + j = k0 ∧ Hid (WhSt w wr g p (p + 1) A n c (K + 4 + 2 * (m : Int)) L m d zs) ∧ Bz zs) (fun t _ => (intOf t).toNat)
    case atStart => exact ⟨k0, 0, 0, none, [], by subst hk0; first | rfl | go_num | (push_cast; simp [Int.add_comm]; done) | (congr 1; omega), by omega, Lib.hid (by have := C2.out; simpa [Int.add_assoc] using this), bz_nil⟩
    case round =>
      obtain ⟨j, m, d, L, zs, rfl, hmj, hC, hz⟩ := hrel
      obtain ⟨s1, s2, s3, s4, s5, s6, s7, s8, s9, sa, sb⟩ := hC.out
      have zr := s2.size
      clear s1 s2 s7 s9 sa sb
      by_cases hj : 0 < j
      · obtain ⟨i, rfl⟩ : ∃ i, j = i + 1 := ⟨j - 1, by omega⟩
        have hj2 : (0 : Int) < ((i + 1 : Nat) : Int) := by omega
        have CD := Lib.hid hC.out.drew
        go_wp2_with fail
        go_region_law
          (first
            | (refine step_app (by rfl) _ _ (by rfl) _ (p + 1) _ _ _ zs (by rfl) (HO4.out.alloc _) w4.heap.size (by rfl) (1 + u) (by simp) (by omega) (by simp; omega) ?_; intro L2 d2 w5 ho5 hb5; obtain ⟨c5, f5, c50, f50⟩ := C4.out.app0 hb5; have HB5 := Lib.hid hb5; have HO5 := Lib.hid ho5; clear hb5 ho5)
            | (go_simp; go_wp2_with (go_at_call 36; refine (pick_any A n c B g (K + 4 + 2 * (m : Int)) 5 _ CD.out.1 (HBY.out _ CD.out.2.1) hBg hn (by omega) (by omega)).mono ?_; rintro e w4 ⟨v, ⟨u, rfl, u0, u1⟩, rfl, hs4, hq4⟩; have C4 := Lib.hid (CD.out.draw l0 (hs4.more (L := K + 4 + 2 * ((m + 1 : Nat) : Int)) (by push_cast; omega)) hq4); rw [if_neg (by omega)] at u1; have uw : IntKind.i64.wrap (1 + u) = 1 + u := IntWalk.i64_in _ (by omega); have c4 := C4.out.2.2.1; have f4 := C4.out.2.2.2.1 0; have HO4 := Lib.hid C4.out.2.2.2.2.2.2.1; have z4 := C4.out.2.2.2.2.2.2.2.1; clear hs4 hq4)))
        all_goals
          have C5 := Lib.hid (WhSt.app C4.out l0 _ HB5.out HO5.out)
          clear s3 s4 s5 s6
          go_wp2
          go_roundw
          case rel => exact ⟨i, m + 1, d2, L2, _, by first | rfl | go_num | (simp; done) | (congr 1; omega), by omega, C5, bz_snoc hz (by omega) (by omega)⟩
          case measure => first | (simp [intOf]; done) | (simp [intOf]; omega)
      · have hj0 : j = 0 := by omega
        subst hj0
        have hj2 : ¬ ((0 : Int) < ((0 : Nat) : Int)) := by omega
        have hm : m = k0 := by omega
        subst hm
        clear hmj hk0
        go_wp2
        (try simp only [Exit.inBlock, Exit.then])
        refine bodyPost_ret (v := .agg #[.slice L m d]) ?_ rfl ?_
        · simp [results, Tryz.results55, go_sem, *]
        · exact hC.out.doneB hz l0 (by omega) (by omega) (by omega)
  · have l1 := z1
    go_wp2_with fail
    go_at_call 35
    refine (one_any A n c B g (K + 2) 2 _ S1.out (HBY.out _ G1.out) hBg hn (by omega) (by omega)).mono ?_
    rintro e w2 ⟨v, ⟨b, rfl⟩, rfl, hs2, hq2⟩
    have z2 := hq2.size
    have x2 : w2.cell? ⟨w.heap.size, 0, none⟩ = some (.slice none 0 0) := hq2.cell x1 (by simp; omega)
    have f2 : ∀ o, w2.frozen? ⟨w.heap.size, o, none⟩ = false := frozen_only hq2 (by omega) (by omega) f1
    have S2 := Lib.hid hs2
    have G2 := Lib.hid (G1.out.trans hq2)
    clear hs2 hq2 x1 f1 S1 G1
    have hlo := hwL_lo b 12
    have hhi := hwL_len b 12
    go_wp2_with fail
    go_at_call 70
    refine (specHourWheel_any b _).mono ?_
    rintro e w3 ⟨L, m, d, rfl, ho3, hb3⟩
    have hm := ho3.len
    have z3 := hb3.size
    have x3 : w3.cell? ⟨w.heap.size, 0, none⟩ = some (.slice none 0 0) := (hb3.cell (by simp; omega)).trans x2
    have f3 : ∀ o, w3.frozen? ⟨w.heap.size, o, none⟩ = false := fun o => (hb3.frozen (by simp; omega)).trans (f2 o)
    have HO := Lib.hid (Own.far (ho3.low (b0 := w.heap.size + 1) (by omega)) (p := ⟨w.heap.size, 0, none⟩) (by simp) (.slice L m d))
    have HS := Lib.hid (Src.set (S2.out.call hb3) (p := ⟨w.heap.size, 0, none⟩) (by simp; omega) (.slice L m d))
    have HG := Lib.hid (only_setCell (G2.out.trans (only_of_below hb3)) (p := ⟨w.heap.size, 0, none⟩) (.inr (by simp)) (.slice L m d))
    rw [hm] at hlo hhi
    clear ho3 hb3 x2 f2
    go_wp2
    (try simp only [Exit.inBlock, Exit.then])
    refine bodyPost_ret (v := .agg #[.slice L m d]) ?_ rfl ?_
    · simp [results, Tryz.results55, go_sem, *]
    · exact ⟨L, m, d, _, rfl, by omega, by omega, HO.out.low (by omega), HS.out.more (by omega), HG.out, bz_hw _⟩
end Go.Proofs.YtajcbppndkkbpaaGreatDoor
