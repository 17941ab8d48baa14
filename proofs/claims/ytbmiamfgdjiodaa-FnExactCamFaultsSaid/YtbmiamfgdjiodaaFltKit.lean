/- Contracts of the laws' comparison and marking of rows of faults. No conditions but that a row has at most 2^20 faults. -/
import Derived.Test.YtbmiamfgdjiodaaCamF3
import Derived.Test.YtbmiamfgdjiodaaMarkCal
import Derived.Deep.RegionHeld3
namespace Go.Proofs.Ytbmiamfgdjiodaa
open Go.RowKit
set_option linter.unusedVariables false
set_option linter.unusedSimpArgs false
section
variable {w : World} {base n c k g : Nat} {A : Option Addr} {fs : List Flt}
theorem OwnF.at_ (h : OwnF w base A n c fs) (hk : k < n) : ∃ g, A = some ⟨g, 0, none⟩ ∧ base ≤ g ∧ g < w.heap.size ∧ w.cell? ⟨g, k * 4, none⟩ = some (.int .i64 (fs.getD k f0).yr) ∧ w.cell? ⟨g, k * 4 + 1, none⟩ = some (.int .i64 (fs.getD k f0).mo) ∧ w.cell? ⟨g, k * 4 + 2, none⟩ = some (.int .i64 (fs.getD k f0).sh) ∧ w.cell? ⟨g, k * 4 + 3, none⟩ = some (.int .i64 (fs.getD k f0).ri) := by
  have hl := h.len
  rcases h.form with ⟨_, h0, _⟩ | ⟨g, rfl, hb, hg, _⟩
  · omega
  · obtain ⟨a0, a1, a2, a3⟩ := flatF_at fs k (by omega)
    exact ⟨g, rfl, hb, hg, (World.ownsRow.cellAt h _ (by omega)).trans a0, (World.ownsRow.cellAt h _ (by omega)).trans a1, (World.ownsRow.cellAt h _ (by omega)).trans a2, (World.ownsRow.cellAt h _ (by omega)).trans a3⟩
theorem flatF_set : ∀ (es : List Flt) (k : Nat) (x : Flt), k < es.length → ((((flatF es).set (k * 4) (.int .i64 x.yr)).set (k * 4 + 1) (.int .i64 x.mo)).set (k * 4 + 2) (.int .i64 x.sh)).set (k * 4 + 3) (.int .i64 x.ri) = flatF (es.set k x)
  | [], k, x, h => by simp at h
  | e :: es, 0, x, _ => rfl
  | e :: es, k + 1, x, h => by
    have ih := flatF_set es k x (by simpa using h)
    have h1 : flatF (e :: es) = .int .i64 e.yr :: .int .i64 e.mo :: .int .i64 e.sh :: .int .i64 e.ri :: flatF es := rfl
    have h2 : flatF ((e :: es).set (k + 1) x) = .int .i64 e.yr :: .int .i64 e.mo :: .int .i64 e.sh :: .int .i64 e.ri :: flatF (es.set k x) := rfl
    rw [h1, h2, show (k + 1) * 4 = k * 4 + 4 by omega, ← ih]
    rfl
/-- the marks of a row -/
def mkF (k : Int) (i : Nat) : Flt := ⟨k + 4 * i, k + 4 * i + 1, k + 4 * i + 1 + 1, k + 4 * i + 1 + 1 + 1⟩
def marksF (k : Int) (n : Nat) : List Flt := (List.range n).map (mkF k)
def markedF (k : Int) (fs : List Flt) (i : Nat) : List Flt := marksF k i ++ fs.drop i
theorem markedF_none (k : Int) (fs : List Flt) : markedF k fs 0 = fs := rfl
theorem markedF_full (k : Int) (fs : List Flt) : markedF k fs fs.length = marksF k fs.length := by simp [markedF]
theorem marksF_getD {k : Int} {n i : Nat} (h : i < n) : (marksF k n).getD i f0 = mkF k i := by simp [marksF, List.getD_eq_getElem?_getD, h]
theorem markedF_set (k : Int) (fs : List Flt) (i : Nat) (h : i < fs.length) : (markedF k fs i).set i (mkF k i) = markedF k fs (i + 1) := by
  have hl : (marksF k i).length = i := by simp [marksF]
  unfold markedF
  rw [List.set_append_right _ _ (by omega), hl, Nat.sub_self]
  have e1 : fs.drop i = fs[i] :: fs.drop (i + 1) := List.drop_eq_getElem_cons h
  rw [e1, List.set_cons_zero]
  have e2 : marksF k (i + 1) = marksF k i ++ [mkF k i] := by simp [marksF, List.range_succ]
  rw [e2, List.append_assoc]; rfl
theorem markedF_len (k : Int) (fs : List Flt) (i : Nat) (h : i ≤ fs.length) : (markedF k fs i).length = fs.length := by simp [markedF, marksF]; omega
end
set_option maxHeartbeats 1000000 in
theorem eqFault_same (x : Flt) (w : World) :
    Calls Try.prog 57 #[.agg #[.int .i64 x.yr, .int .i64 x.mo, .int .i64 x.sh, .int .i64 x.ri], .agg #[.int .i64 x.yr, .int .i64 x.mo, .int .i64 x.sh, .int .i64 x.ri]] w fun e w' => e = .returned (.bool true) ∧ Below w.heap.size w w' := by
  go_enter Try.func57, Try.ntmps57
  go_wp2
  go_ret
  exact ⟨rfl, by (repeat (first | with_reducible exact Below.refl _ _ | with_reducible refine below_alloc ?_ _ | with_reducible refine below_drewN ?_ _ | with_reducible refine Below.drew ?_ | ((with_reducible refine below_set ?_ ?_ _); rotate_left; (focus (first | (simp; done) | (simp; omega) | omega))) | with_reducible refine below_call ?_ (by assumption)))⟩
set_option maxHeartbeats 2000000 in
theorem eqFaultS_same (A A' : Option Addr) (n c c' base base' : Nat) (fs : List Flt) (w : World) (h : OwnF w base A n c fs) (h' : OwnF w base' A' n c' fs) (hn : n ≤ 1048576) :
    Calls Try.prog 19 #[.slice A n c, .slice A' n c'] w fun e w' => e = .returned (.bool true) ∧ Below w.heap.size w w' := by
  have H := Lib.hid h
  have H' := Lib.hid h'
  clear h h'
  go_enter Try.func19, Try.ntmps19
  go_wp2
  go_loopw [5] (fun t wr => ∃ k : Nat, t = .int .i64 k ∧ k ≤ n ∧ Below w.heap.size w wr) (fun t _ => n - (intOf t).toNat)
  case atStart => exact ⟨0, rfl, Nat.zero_le _, Below.refl _ _⟩
  case round =>
    obtain ⟨k, rfl, hk, hb⟩ := hrel
    have i0 : (0 : Int) ≤ (k : Int) := Int.natCast_nonneg _
    by_cases hlt : k < n
    · have i1 : (k : Int) < (n : Int) := by omega
      obtain ⟨b, rfl, _, hzb, c1, c2, c3, c4⟩ := (H.out.call hb).at_ hlt
      obtain ⟨b', rfl, _, hzb', d1, d2, d3, d4⟩ := (H'.out.call hb).at_ hlt
      obtain ⟨x, hx⟩ : ∃ x, fs.getD k f0 = x := ⟨_, rfl⟩
      rw [hx] at c1 c2 c3 c4 d1 d2 d3 d4
      clear hx
      have yr := Below.refl wr.heap.size wr
      go_wp2
      go_region_held3 (fun w' => w'.cell? ⟨b, k * 4, none⟩ = some (.int .i64 x.yr) ∧ w'.cell? ⟨b, k * 4 + 1, none⟩ = some (.int .i64 x.mo) ∧ w'.cell? ⟨b, k * 4 + 2, none⟩ = some (.int .i64 x.sh) ∧ w'.cell? ⟨b, k * 4 + 3, none⟩ = some (.int .i64 x.ri) ∧ w'.cell? ⟨b', k * 4, none⟩ = some (.int .i64 x.yr) ∧ w'.cell? ⟨b', k * 4 + 1, none⟩ = some (.int .i64 x.mo) ∧ w'.cell? ⟨b', k * 4 + 2, none⟩ = some (.int .i64 x.sh) ∧ w'.cell? ⟨b', k * 4 + 3, none⟩ = some (.int .i64 x.ri) ∧ b < w'.heap.size ∧ b' < w'.heap.size ∧ Below w.heap.size w w' ∧ Below wr.heap.size wr w')
        (first | ((try go_split_ands); (try dsimp only); refine ⟨?_, ?_, ?_, ?_, ?_, ?_, ?_, ?_, ?_, ?_, ?_, ?_⟩ <;> first | (exact cell_call (by assumption) (by assumption) (by assumption)) | (exact lt_call (by assumption) (by assumption)) | (exact below_call' (by assumption) (by assumption)) | (exact Below.drew (by assumption)) | (with_reducible assumption) | (simp; done) | (simp [*]; done) | ((repeat (first | with_reducible exact Below.refl _ _ | with_reducible refine below_alloc ?_ _ | with_reducible refine below_drewN ?_ _ | with_reducible refine Below.drew ?_ | ((with_reducible refine below_set ?_ ?_ _); rotate_left; (focus (first | (simp; done) | (simp; omega) | omega))) | with_reducible refine below_call ?_ (by assumption))); done) | omega | (simp; omega) | (simp [go_sem]; done) | (simp [go_sem, *]; done)))
        (first
          | (go_at_call 57; go_split_ands; refine (eqFault_same x _).mono ?_; rintro e w3 ⟨rfl, hb3⟩))
      go_split_ands
      have HB3 : Below w.heap.size w w3 := by assumption
      clear hb
      go_wp2
      go_roundw
      case rel => exact ⟨k + 1, by go_num, by omega, HB3⟩
      case measure => simp [intOf]; omega
    · go_wp2
      go_ret
      exact ⟨rfl, hb⟩
set_option maxHeartbeats 2000000 in
theorem markFaultS_any (A : Option Addr) (n c base : Nat) (fs : List Flt) (k : Int) (w : World) (h : OwnF w base A n c fs) (hn : n ≤ 1048576) (hk0 : 0 ≤ k) (hk1 : k ≤ 10000000) :
    Calls Try.prog 20 #[.slice A n c, .int .i64 k] w fun e w' => e = .returned (.int .i64 (k + 4 * n)) ∧ OwnF w' base A n c (marksF k n) ∧ w.grownBy w' (Value.slice A n c).ownBlock := by
  have hl := h.len
  rcases h.form with ⟨rfl, h0, hc0⟩ | ⟨g, rfl, hg, hgl, hnc⟩
  · subst h0
    have HF := Lib.hid h
    have HL := Lib.hid hl
    clear h hl
    go_enter Try.func20, Try.ntmps20
    go_wp2
    go_loopw [1, 5] (fun s t wr => s = .int .i64 k ∧ t = .int .i64 0 ∧ wr = w) (fun _ _ _ => 0)
    case atStart => exact ⟨rfl, rfl, rfl⟩
    case round =>
      obtain ⟨rfl, rfl, rfl⟩ := hrel
      go_wp2
      go_ret
      refine ⟨ret_int (by simp), ?_, World.grownBy.refl _ _⟩
      have e : fs = [] := List.eq_nil_of_length_eq_zero HL.out
      have h2 := HF.out
      rw [e] at h2; exact h2
  · have HL := Lib.hid hl
    have H : Hid (OwnF w base (some ⟨g, 0, none⟩) n c (markedF k fs 0)) := Lib.hid h
    clear hl h
    go_enter Try.func20, Try.ntmps20
    go_wp2
    go_loopw [1, 5] (fun s t wr => ∃ i : Nat, s = .int .i64 (k + 4 * i) ∧ t = .int .i64 i ∧ i ≤ n ∧ Hid (OwnF wr base (some ⟨g, 0, none⟩) n c (markedF k fs i)) ∧ Hid (w.grownBy wr (some g))) (fun _ t _ => n - (intOf t).toNat)
    case atStart => exact ⟨0, by simp, rfl, Nat.zero_le _, H, Lib.hid (World.grownBy.refl _ _)⟩
    case round =>
      obtain ⟨i, rfl, rfl, hi, ho, hG⟩ := hrel
      clear H
      have i0 : (0 : Int) ≤ (i : Int) := Int.natCast_nonneg _
      by_cases hlt : i < n
      · have i1 : (i : Int) < (n : Int) := by omega
        have hin : (i : Int) ≤ 1048576 := by omega
        obtain ⟨v0, c0⟩ := row_cell ho.out (j := i * 4) (by omega)
        obtain ⟨v1, c1⟩ := row_cell ho.out (j := i * 4 + 1) (by omega)
        obtain ⟨v2, c2⟩ := row_cell ho.out (j := i * 4 + 2) (by omega)
        obtain ⟨v3, c3⟩ := row_cell ho.out (j := i * 4 + 3) (by omega)
        have f0 := World.ownsRow.frozenAt ho.out (i * 4)
        have f1 := World.ownsRow.frozenAt ho.out (i * 4 + 1)
        have f2 := World.ownsRow.frozenAt ho.out (i * 4 + 2)
        have f3 := World.ownsRow.frozenAt ho.out (i * 4 + 3)
        have HX := Lib.hid (markedF_set k fs i (by rw [HL.out]; exact hlt))
        have HXL := Lib.hid (markedF_len k fs i (by rw [HL.out]; omega))
        go_wp2
        go_roundw
        case rel =>
          have S1 := World.ownsRow.stored ho.out (i * 4) (.int .i64 (mkF k i).yr)
          have S2 := World.ownsRow.stored S1.1 (i * 4 + 1) (.int .i64 (mkF k i).mo)
          have S3 := World.ownsRow.stored S2.1 (i * 4 + 2) (.int .i64 (mkF k i).sh)
          have S4 := World.ownsRow.stored S3.1 (i * 4 + 3) (.int .i64 (mkF k i).ri)
          refine ⟨i + 1, by congr 1; push_cast; omega, by go_num, by omega, Lib.hid ?_, Lib.hid ((((hG.out.trans S1.2).trans S2.2).trans S3.2).trans S4.2)⟩
          have h9 := S4.1
          rw [flatF_set _ i _ (by rw [HXL.out, HL.out]; exact hlt), HX.out] at h9
          exact h9
        case measure => simp [intOf]; omega
      · have HE := Lib.hid (show i = n by omega)
        go_wp2
        go_ret
        refine ⟨by rw [HE.out]; rfl, ?_, hG.out⟩
        have h9 := ho.out
        rw [HE.out, ← HL.out, markedF_full] at h9
        rw [← HL.out]; exact h9
set_option maxHeartbeats 2000000 in
theorem heldFaultS_any (A : Option Addr) (n c base : Nat) (k : Int) (w : World) (h : OwnF w base A n c (marksF k n)) (hn : n ≤ 1048576) (hk0 : 0 ≤ k) (hk1 : k ≤ 10000000) :
    Calls Try.prog 21 #[.slice A n c, .int .i64 k] w fun e w' => e = .returned (.int .i64 (k + 4 * n)) ∧ w = w' := by
  have H := Lib.hid h
  clear h
  go_enter Try.func21, Try.ntmps21
  go_wp2
  go_loop [1, 5] (fun s t => ∃ i : Nat, s = .int .i64 (k + 4 * i) ∧ t = .int .i64 i ∧ i ≤ n) (fun _ t => n - (intOf t).toNat)
  case atStart => exact ⟨0, by simp, rfl, Nat.zero_le _⟩
  case round =>
    obtain ⟨i, rfl, rfl, hi⟩ := hrel
    have i0 : (0 : Int) ≤ (i : Int) := Int.natCast_nonneg _
    by_cases hlt : i < n
    · have i1 : (i : Int) < (n : Int) := by omega
      have hin : (i : Int) ≤ 1048576 := by omega
      obtain ⟨b, rfl, _, hzb, c1, c2, c3, c4⟩ := H.out.at_ hlt
      rw [marksF_getD hlt] at c1 c2 c3 c4
      simp only [mkF] at c1 c2 c3 c4
      go_wp2
      go_round
      case rel => exact ⟨i + 1, by congr 1; push_cast; omega, by go_num, by omega⟩
      case measure => simp [intOf]; omega
    · have HE := Lib.hid (show i = n by omega)
      go_wp2
      go_ret
      exact ⟨by rw [HE.out]; rfl, rfl⟩
end Go.Proofs.Ytbmiamfgdjiodaa
