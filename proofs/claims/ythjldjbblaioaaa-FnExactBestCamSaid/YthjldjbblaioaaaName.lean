/- Contracts of the two functions IsName. No conditions. -/
import Derived.Test.YthjldjbblaioaaaCal3
import Derived.Lib.ConvBytes
import Derived.Lib.AtoiErrMem
namespace Go.Proofs.Ythjldjbblaioaaa
open Go.RowKit
set_option linter.unusedVariables false
set_option linter.unusedSimpArgs false
def smallB (b : UInt8) : Bool := decide (97 ≤ b.toNat) && decide (b.toNat ≤ 122)
def digB (b : UInt8) : Bool := decide (48 ≤ b.toNat) && decide (b.toNat ≤ 57)
def nameB (b : UInt8) : Bool := smallB b || digB b || decide (b.toNat = 45)
/-- a text is a name -/
def vName (l : List UInt8) : Bool := decide (1 ≤ l.length) && decide (l.length ≤ 12) && smallB (l.getD 0 0) && l.all nameB
theorem vName_len {l : List UInt8} (h : ¬ (1 ≤ l.length ∧ l.length ≤ 12)) : vName l = false := by
  unfold vName
  by_cases h1 : 1 ≤ l.length
  · have h2 : ¬ l.length ≤ 12 := fun e => h ⟨h1, e⟩
    simp [h2]
  · simp [h1]
theorem vName_first {l : List UInt8} (h : smallB (l.getD 0 0) = false) : vName l = false := by unfold vName; rw [h]; simp
theorem vName_bad {l : List UInt8} {k : Nat} (hk : k < l.length) (h : nameB (l.getD k 0) = false) : vName l = false := by
  have : l.all nameB = false := by
    rw [List.all_eq_false]
    refine ⟨l[k], List.getElem_mem hk, ?_⟩
    rw [List.getD_eq_getElem?_getD, List.getElem?_eq_getElem hk] at h
    simpa using h
  unfold vName; rw [this]; simp
theorem vName_good {l : List UInt8} (h1 : 1 ≤ l.length) (h2 : l.length ≤ 12) (h3 : smallB (l.getD 0 0) = true) (h4 : ∀ j, j < l.length → nameB (l.getD j 0) = true) : vName l = true := by
  have : l.all nameB = true := by
    rw [List.all_eq_true]
    intro x hx
    obtain ⟨j, hj, rfl⟩ := List.mem_iff_getElem.1 hx
    have := h4 j hj
    rwa [List.getD_eq_getElem?_getD, List.getElem?_eq_getElem hj] at this
  unfold vName; rw [this, h3]; simp [h1, h2]
theorem byte_getD {s : ByteArray} {k : Nat} (hk : k < s.size) : s[k] = s.data.toList.getD k 0 := by
  have h : k < s.data.toList.length := by simpa using hk
  rw [List.getD_eq_getElem?_getD, List.getElem?_eq_getElem h]; rfl
theorem list_size (s : ByteArray) : s.data.toList.length = s.size := by simp
theorem smallB_iff (b : UInt8) : smallB b = true ↔ ((97 : Int) ≤ (b.toNat : Int) ∧ (b.toNat : Int) ≤ 122) := by
  unfold smallB
  rw [Bool.and_eq_true, decide_eq_true_eq, decide_eq_true_eq]
  constructor <;> intro h <;> omega
theorem digB_iff (b : UInt8) : digB b = true ↔ ((48 : Int) ≤ (b.toNat : Int) ∧ (b.toNat : Int) ≤ 57) := by
  unfold digB
  rw [Bool.and_eq_true, decide_eq_true_eq, decide_eq_true_eq]
  constructor <;> intro h <;> omega
theorem nameB_iff (b : UInt8) : nameB b = true ↔ (((97 : Int) ≤ (b.toNat : Int) ∧ (b.toNat : Int) ≤ 122) ∨ ((48 : Int) ≤ (b.toNat : Int) ∧ (b.toNat : Int) ≤ 57) ∨ (b.toNat : Int) = 45) := by
  unfold nameB
  rw [Bool.or_eq_true, Bool.or_eq_true, smallB_iff, digB_iff, decide_eq_true_eq]
  constructor <;> intro h <;> omega
theorem no_of {x : Bool} {p : Prop} (h : x = true ↔ p) (hn : ¬ p) : x = false := by
  cases hx : x
  · rfl
  · exact absurd (h.1 hx) hn
set_option maxRecDepth 8000 in
set_option maxHeartbeats 4000000 in
theorem IsName_any (s : ByteArray) (w : World) : Calls Try.prog 95 #[.string s] w fun e w' => e = .returned (.bool (vName s.data.toList)) ∧ Below w.heap.size w w' := by
  have hl := list_size s
  by_cases h1 : s.size < 1
  · have i1 : (s.size : Int) < 1 := by omega
    have HV := Lib.hid (vName_len (l := s.data.toList) (by omega))
    clear hl
    go_enter Try.func95, Try.ntmps95
    go_wp2
    go_ret
    exact ⟨by rw [HV.out]; rfl, Below.refl _ _⟩
  · have i1 : ¬ ((s.size : Int) < 1) := by omega
    by_cases h12 : 12 < s.size
    · have i2 : (12 : Int) < (s.size : Int) := by omega
      have HV := Lib.hid (vName_len (l := s.data.toList) (by omega))
      clear hl
      go_enter Try.func95, Try.ntmps95
      go_wp2
      go_ret
      exact ⟨by rw [HV.out]; rfl, Below.refl _ _⟩
    · have i2 : ¬ ((12 : Int) < (s.size : Int)) := by omega
      have HL := Lib.hid hl
      have hcv := Lib.run_convert_string_bytes (P := Try.prog) w 9 22 5 s Try.underlying9 Try.underlying22 Try.underlying5
      obtain ⟨cp, hcp⟩ : ∃ cp, grownCap w s.size 0 5 = cp := ⟨_, rfl⟩
      rw [hcp] at hcv
      have hcells := fun j hj => Lib.bytesWorld_cell w 5 s j hj
      have hbw : Below w.heap.size w (Lib.bytesWorld w 5 s) := Lib.bytesWorld_below w _ s
      have hsz := Lib.bytesWorld_size w 5 s
      obtain ⟨wb, hwb⟩ : ∃ wb, Lib.bytesWorld w 5 s = wb := ⟨_, rfl⟩
      rw [hwb] at hcv hcells hbw hsz
      have HC := Lib.hid hcells
      clear hl hcells hcp hwb
      go_enter Try.func95, Try.ntmps95
      go_wp2
      go_loopw [18, 3, 4, 5, 6] (fun t _ _ _ _ wr => ∃ k : Nat, t = .int .i64 k ∧ k ≤ s.size ∧ Hid (∀ j, j < k → nameB (s.data.toList.getD j 0) = true) ∧ Hid (0 < k → smallB (s.data.toList.getD 0 0) = true) ∧ wr = wb) (fun t _ _ _ _ _ => s.size - (intOf t).toNat)
      case atStart => exact ⟨0, rfl, Nat.zero_le _, Lib.hid (fun j hj => absurd hj (by omega)), Lib.hid (fun h => absurd h (by omega)), rfl⟩
      case round =>
        obtain ⟨k, rfl, hk, hA, hF, rfl⟩ := hrel
        have i0 : (0 : Int) ≤ (k : Int) := Int.natCast_nonneg _
        by_cases hlt : k < s.size
        · have i3 : (k : Int) < (s.size : Int) := by omega
          have hc := HC.out k hlt
          obtain ⟨b, hb⟩ : ∃ b, s.data.toList.getD k 0 = b := ⟨_, rfl⟩
          rw [hb] at hc
          have HB := Lib.hid hb
          clear hb
          by_cases a6 : k = 0
          · subst a6
            by_cases a1 : (97 : Int) ≤ (b.toNat : Int) <;> by_cases a2 : (b.toNat : Int) ≤ 122 <;> by_cases a3 : (48 : Int) ≤ (b.toNat : Int) <;> by_cases a4 : (b.toNat : Int) ≤ 57 <;> by_cases a5 : b.toNat = 45 <;> (try (exfalso; omega))
            all_goals
              (try have a10 : ((b.toNat : Int) == 45) = false := beq_eq_false_iff_ne.2 (by omega))
              first
                | (have HN := Lib.hid (show smallB b = true from (smallB_iff b).2 (by omega))
                   go_wp2
                   go_roundw
                   case rel =>
                     refine ⟨1, by go_num, by omega, Lib.hid (fun j hj => ?_), Lib.hid (fun _ => ?_), trivial⟩
                     · obtain rfl : j = 0 := by omega
                       rw [HB.out]; unfold nameB; rw [HN.out]; rfl
                     · rw [HB.out]; exact HN.out
                   case measure => simp [intOf]; omega)
                | (have HV := Lib.hid (show vName s.data.toList = false from vName_first (by rw [HB.out]; exact no_of (smallB_iff b) (by omega)))
                   go_wp2
                   go_ret
                   exact ⟨by rw [HV.out]; rfl, hbw⟩)
          · have a8 : ¬ ((k : Int) = 0) := by omega
            have a7 : ((k : Int) == 0) = false := by simpa using a6
            have a9 : (k == 0) = false := by simpa using a6
            by_cases a1 : (97 : Int) ≤ (b.toNat : Int) <;> by_cases a2 : (b.toNat : Int) ≤ 122 <;> by_cases a3 : (48 : Int) ≤ (b.toNat : Int) <;> by_cases a4 : (b.toNat : Int) ≤ 57 <;> by_cases a5 : b.toNat = 45 <;> (try (exfalso; omega))
            all_goals
              (try have a10 : ((b.toNat : Int) == 45) = false := beq_eq_false_iff_ne.2 (by omega))
              first
                | (have HN := Lib.hid (show nameB b = true from (nameB_iff b).2 (by omega))
                   go_wp2
                   all_goals
                     refine ⟨⟨k + 1, by go_num, by omega, Lib.hid (fun j hj => ?_), Lib.hid (fun _ => hF.out (by omega)), trivial⟩, by simp [intOf]; omega⟩
                     by_cases e : j = k
                     · subst e; rw [HB.out]; exact HN.out
                     · exact hA.out j (by omega))
                | (have HV := Lib.hid (show vName s.data.toList = false from vName_bad (k := k) (by rw [HL.out]; exact hlt) (by rw [HB.out]; exact no_of (nameB_iff b) (by omega)))
                   go_wp2
                   go_ret
                   exact ⟨by rw [HV.out]; rfl, hbw⟩)
        · have HV := Lib.hid (show vName s.data.toList = true from vName_good (by rw [HL.out]; omega) (by rw [HL.out]; omega) (hF.out (by omega)) (fun j hj => hA.out j (by rw [HL.out] at hj; omega)))
          go_wp2
          go_ret
          exact ⟨by rw [HV.out]; rfl, hbw⟩
end Go.Proofs.Ythjldjbblaioaaa
