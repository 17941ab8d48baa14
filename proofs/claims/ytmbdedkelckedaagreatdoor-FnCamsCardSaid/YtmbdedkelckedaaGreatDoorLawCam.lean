/- What the law of cams keeps in its hands. No conditions. -/
import Derived.Test.YtmbdedkelckedaaGreatDoorCore9
import Derived.Test.YtmbdedkelckedaaGreatDoorCamOf
import Derived.Test.YtmbdedkelckedaaGreatDoorBest4
import Derived.Test.YtmbdedkelckedaaGreatDoorReadCam
import Derived.Test.YtmbdedkelckedaaGreatDoorReadPlain
import Derived.Test.YtmbdedkelckedaaGreatDoorOpenBytes
namespace Go.Proofs.YtmbdedkelckedaaGreatDoor
open Go.RowKit
set_option linter.unusedVariables false
set_option linter.unusedSimpArgs false
set_option maxHeartbeats 400000 in
theorem a2Long_any (A A' : Option Addr) (n n' c c' : Nat) (w : World) (hn : n ≤ 9223372036854775807) (hn' : n' ≤ 9223372036854775807) :
    Calls Tryz.prog 5 #[.slice A n c, .slice A' n' c'] w fun e w' => e = .returned (.bool (decide ((3000 : Int) < n) || decide ((3000 : Int) < n'))) ∧ w = w' := by
  by_cases h : (3000 : Int) < n
  · have h1 : decide ((3000 : Int) < n) = true := by simpa using h
    rw [h1]
    go_enter Tryz.func5, Tryz.ntmps5
    go_wp2
    go_ret
    exact ⟨rfl, rfl⟩
  · have h1 : decide ((3000 : Int) < n) = false := by simpa using h
    rw [h1, Bool.false_or]
    go_enter Tryz.func5, Tryz.ntmps5
    go_wp2
    go_ret
    exact ⟨rfl, rfl⟩
/-- the calendar in its box and the cam -/
structure LC (w W : World) (b : Nat) (nm : ByteArray) (A1 A2 L : Option Addr) (n1 n2 c1 c2 l : Nat) (ms : List Mth) (rs : List Rul) (zs : List Int) (we : Int) : Prop where
  at_ : CalAt W b nm A1 A2 n1 n2 c1 c2 we
  m : Months W W.heap.size A1 n1 ms
  r : Rules W W.heap.size A2 n2 rs
  iz : Ints W W.heap.size L l zs
  bl : Below w.heap.size w W
theorem LC.call {w W W' : World} {b : Nat} {nm : ByteArray} {A1 A2 L : Option Addr} {n1 n2 c1 c2 l : Nat} {ms : List Mth} {rs : List Rul} {zs : List Int} {we : Int} (h : LC w W b nm A1 A2 L n1 n2 c1 c2 l ms rs zs we) (hb : Below W.heap.size W W') : LC w W' b nm A1 A2 L n1 n2 c1 c2 l ms rs zs we :=
  ⟨h.at_.call hb, Tri.more (Tri.below h.m hb) hb.size, Tri.more (Tri.below h.r hb) hb.size, (h.iz.below hb).more hb.size, below_call h.bl hb⟩
theorem Ints.on {W W' : World} {A : Option Addr} {n : Nat} {zs : List Int} (h : Ints W W.heap.size A n zs) (hb : Below W.heap.size W W') : Ints W' W'.heap.size A n zs := (h.below hb).more hb.size
/-- what is written of a cam is read -/
theorem read_tx {zs : List Int} (h : vCam zs = true) : rdZ 32 (txK [32] zs zs.length) = zs := by
  obtain ⟨h1, h2, h3⟩ := vCam_yes h
  unfold rdZ
  rw [split_tx (by decide) zs h2]
  exact map_num (fun p v hp => numZ_ok hp) zs (fun x hx => by
    obtain ⟨j, hj, rfl⟩ := List.mem_iff_getElem.1 hx
    have := h1 j hj
    rw [getD_of hj] at this
    omega)
theorem tx_len {zs : List Int} (h : vCam zs = true) : (txK [32] zs zs.length).length ≤ 1040 := by
  obtain ⟨h1, h2, h3⟩ := vCam_yes h
  have := txK_len [32] zs (by simp) (fun j hj => by have := h1 j hj; omega) zs.length (Nat.le_refl _)
  omega
end Go.Proofs.YtmbdedkelckedaaGreatDoor
