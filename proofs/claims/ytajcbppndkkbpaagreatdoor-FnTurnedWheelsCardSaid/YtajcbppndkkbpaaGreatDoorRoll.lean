/- Numbers that the laws draw from bytes of their own (f6roll, below), and the search in a list (f6has). No conditions but that there are at most 4096 bytes. -/
import Derived.Test.YtajcbppndkkbpaaGreatDoorSrcOwn
import Derived.Test.YtajcbppndkkbpaaGreatDoorOpenBytes
namespace Go.Proofs.YtajcbppndkkbpaaGreatDoor
open Go.RowKit
set_option linter.unusedVariables false
set_option linter.unusedSimpArgs false
set_option maxHeartbeats 400000 in
theorem f6big_any (A : Option Addr) (n c : Nat) (w : World) (hn : n ≤ 9223372036854775807) :
    Calls Tryz.prog 4 #[.slice A n c] w fun e w' => e = .returned (.bool (decide ((4096 : Int) < n))) ∧ w = w' := by
  go_enter Tryz.func4, Tryz.ntmps4
  go_wp2
  go_ret
  exact ⟨rfl, rfl⟩
theorem Byts.wide {w : World} {B B' n : Nat} {A : Option Addr} (h : Byts w B A n) (hB : B ≤ B') : Byts w B' A n := fun hn => by
  obtain ⟨b, off, e, hb, hc⟩ := h hn
  exact ⟨b, off, e, by omega, hc⟩
/-- the dice in block g -/
def Dice (w : World) (g : Nat) (A : Option Addr) (n c : Nat) : Prop :=
  ∃ x s : Int, w.cell? ⟨g, 0, none⟩ = some (.slice A n c) ∧ w.cell? ⟨g, 1, none⟩ = some (.int .i64 x) ∧ 0 ≤ x ∧ x ≤ n ∧ w.cell? ⟨g, 2, none⟩ = some (.int .u64 s) ∧ ∀ o, w.frozen? ⟨g, o, none⟩ = false
theorem low24 (s : Int) : ∃ y : Int, 0 ≤ y ∧ y ≤ 16777215 ∧ wrap64 (bits .and .u64 (IntKind.u64.wrap s / 8589934592) 16777215) = y := by
  have h0 : 0 ≤ IntKind.u64.wrap s ∧ IntKind.u64.wrap s < 18446744073709551616 := by rw [IntKind.wrap_u64]; omega
  generalize IntKind.u64.wrap s = u at *
  have h := bits_mask .u64 63 (by decide) u64_in 24 (by decide) (u / 8589934592) (by omega) (by omega)
  have e : ((2 : Int) ^ 24 - 1) = 16777215 := by decide
  have e2 : ((2 : Int) ^ 24) = 16777216 := by decide
  rw [e, e2] at h
  rw [h]
  exact ⟨_, by unfold wrap64; omega, by unfold wrap64; omega, rfl⟩
end Go.Proofs.YtajcbppndkkbpaaGreatDoor
