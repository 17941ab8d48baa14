/- Contracts of the blows of some strikes. No conditions but bounds on the notch and the number. -/
import Derived.Test.YtajcbppndkkbpaaGreatDoorStrike
import Derived.Test.YtajcbppndkkbpaaGreatDoorApp
import Derived.Test.YtajcbppndkkbpaaGreatDoorApp2
namespace Go.Proofs.YtajcbppndkkbpaaGreatDoor
open Go.RowKit
set_option linter.unusedVariables false
set_option linter.unusedSimpArgs false
/-- the blows of m strikes from notch x on -/
def manyL (zs : List Int) (n x m : Nat) : List Int := (List.range m).map fun k => zs.getD ((x + k) % n) 0
theorem manyL_len (zs : List Int) (n x m : Nat) : (manyL zs n x m).length = m := by simp [manyL]
theorem manyL_succ (zs : List Int) (n x m : Nat) : manyL zs n x (m + 1) = manyL zs n x m ++ [zs.getD ((x + m) % n) 0] := by simp [manyL, List.range_succ]
theorem manyL_getD {zs : List Int} {n x m j : Nat} (h : j < m) : (manyL zs n x m).getD j 0 = zs.getD ((x + j) % n) 0 := by
  rw [getD_of (by rw [manyL_len]; exact h)]; simp [manyL]
set_option maxHeartbeats 4000000 in
theorem l20Many_any (A : Option Addr) (n c B : Nat) (zs : List Int) (x m : Nat) (w : World) (h : Ints w B A n zs) (hB : B ≤ w.heap.size) (hn1 : 1 ≤ n) (hn : n ≤ 1048576) (hx : x ≤ 1048576) (hm : m ≤ 1048576) :
    Calls Tryz.prog 45 #[.agg #[.slice A n c], .int .i64 x, .int .i64 m] w (NewInts w (manyL zs n x m)) := by
  have HL := Lib.hid h.len
  have H := Lib.hid (h.more hB)
  clear h hB
  go_enter Tryz.func45, Tryz.ntmps45
  go_wp2
  go_loopw [7, 8] (fun l t wr => ∃ (k c' : Nat) (L : Option Addr), t = .int .i64 k ∧ k ≤ m ∧ l = .slice L k c' ∧ Hid (Own wr (w.heap.size + 1) L k c' (manyL zs n x k)) ∧ Below (w.heap.size + 1) (w.alloc (.cells #[.slice A n c] 26)) wr) (fun _ t _ => m - (intOf t).toNat)
  case atStart => exact ⟨0, 0, _, rfl, Nat.zero_le _, rfl, Lib.hid (own_empty (by simp) (by simp)), (Below.refl _ _).alloc (by simp) _⟩
  case round =>
    obtain ⟨k, c', L, rfl, hk, rfl, ho, hB⟩ := hrel
    have hsz : w.heap.size + 1 ≤ wr.heap.size := by have := hB.size; simpa using this
    have hlt0 : w.heap.size < wr.heap.size := by omega
    have hbx : wr.cell? ⟨w.heap.size, 0, none⟩ = some (.slice A n c) := by rw [hB.cell (p := ⟨w.heap.size, 0, none⟩) (by simp)]; simp
    by_cases hlt : k < m
    · have HB := Lib.hid hB
      clear hB
      have hj : (x + k) % n < n := Nat.mod_lt _ (by omega)
      obtain ⟨b, off, rfl, hbl, hc⟩ := H.out.at_ hj
      have hs := manyL_succ zs n x k
      have qr : ((x : Int) + (k : Int)).tmod (n : Int) = (((x + k) % n : Nat) : Int) := rem_i64 (x + k) n hn1 hn (by omega)
      have qw : IntKind.i64.wrap ((x : Int) + (k : Int)) = (x : Int) + (k : Int) := IntWalk.i64_in _ (by omega)
      have hcr : wr.cell? ⟨b, off + (x + k) % n, none⟩ = some (.int .i64 (zs.getD ((x + k) % n) 0)) := by
        rw [HB.out.cell (p := ⟨b, off + (x + k) % n, none⟩) (by simp; omega)]
        exact (World.cell?_alloc_lt w _ _ (by simpa using hbl)).trans hc
      generalize (x + k) % n = j at *
      generalize zs.getD j 0 = y at *
      have HS := Lib.hid hs
      have j0 : (0 : Int) ≤ (j : Int) := Int.natCast_nonneg _
      have j1 : (j : Int) < (n : Int) := by omega
      clear hs hc
      go_wp2
      have hbw : b < wr.heap.size := by omega
      have n0 : ((n : Int) == 0) = false := by rw [beq_eq_false_iff_ne]; omega
      have n2 : ¬ ((n : Int) = 0) := by omega
      have n3 : ¬ (n = 0) := by omega
      go_region_held3 (fun w' => w'.cell? ⟨w.heap.size, 0, none⟩ = some (.slice (some ⟨b, off, none⟩) n c) ∧ w'.cell? ⟨b, off + j, none⟩ = some (.int .i64 y))
        (first
          | (go_split_ands; (try dsimp only); refine ⟨?_, ?_⟩ <;> (refine cell_belowB hb2 ?_ ?_ <;> first | assumption | omega | (simp; done) | (simp; omega)))
          | go_keep)
        ((refine step_app (by rfl) _ _ (by rfl) _ (w.heap.size + 1) _ _ _ (manyL zs n x k) (by rfl) ((ho.out.alloc _).drew) wr.heap.size (by rfl) y (by simp) (by omega) (by simp; omega) ?_; intro L2 c2 w2 ho2 hb2; have HO2 := Lib.hid ho2; clear ho2))
      go_wp2
      go_roundw
      case rel =>
        refine ⟨k + 1, c2, L2, by go_num, by omega, rfl, by rw [HS.out]; exact HO2, ?_⟩
        exact ((HB.out.alloc hsz _).drew).trans hb2
      case measure => simp [intOf]; omega
    · have HE := Lib.hid (show k = m by omega)
      have HB := Lib.hid hB
      clear hB
      go_wp2
      go_ret
      refine ⟨L, k, c', rfl, ?_, ?_⟩
      · have := ho.out.low (b0 := w.heap.size) (by omega)
        rw [HE.out] at this ⊢; exact this
      · exact ((Below.refl _ _).alloc (Nat.le_refl _) _).trans (HB.out.mono (by omega))
end Go.Proofs.YtajcbppndkkbpaaGreatDoor
