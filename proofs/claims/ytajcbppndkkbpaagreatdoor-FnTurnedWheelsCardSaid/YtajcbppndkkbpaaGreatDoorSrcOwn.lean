/- A source of draws beside a slice of the call's own: each stays as it is while the other is moved. No conditions. -/
import Derived.Test.YtajcbppndkkbpaaGreatDoorSrc
import Derived.Test.YtajcbppndkkbpaaGreatDoorApp
namespace Go.Proofs.YtajcbppndkkbpaaGreatDoor
open Go.RowKit
set_option linter.unusedVariables false
set_option linter.unusedSimpArgs false
theorem Src.set {w : World} {g n c : Nat} {A : Option Addr} {K : Int} (h : Src w g A n c K) {p : Addr} (hp : p.block ≠ g) (u : Value) : Src (w.setCell p u) g A n c K := h.keep (Below.heap_setCell w p u g (Ne.symm hp))
theorem Src.belowB {w w' : World} {B g n c : Nat} {A : Option Addr} {K : Int} (h : Src w g A n c K) (hb : Below B w w') (hg : g < B) : Src w' g A n c K := h.keep (hb.block g hg)
theorem Byts.set {w : World} {B n : Nat} {A : Option Addr} (h : Byts w B A n) {p : Addr} (hp : B ≤ p.block) (u : Value) : Byts (w.setCell p u) B A n := h.below ((Below.refl _ _).setCell hp u)
theorem Byts.alloc {w : World} {B n : Nat} {A : Option Addr} (h : Byts w B A n) (hB : B ≤ w.heap.size) (o : Obj) : Byts (w.alloc o) B A n := h.below ((Below.refl _ _).alloc hB o)
theorem only_belowB {a w w1 : World} {row : Option Nat} (h : a.grownBy w row) (hb : Below a.heap.size w w1) : a.grownBy w1 row :=
  ⟨hb.os.trans h.os, hb.tape.trans h.tape, hb.output.trans h.output, Nat.le_trans h.size hb.size, fun i hi hne => (hb.block i hi).trans (h.block i hi hne)⟩
theorem Own.only {w w' : World} {base g n c : Nat} {A : Option Addr} {zs : List Int} (h : Own w base A n c zs) (hg : w.grownBy w' (some g)) (hgb : g < base) : Own w' base A n c zs :=
  h.block fun b hb hl => hg.block b hl (by intro e; injection e with e; omega)
theorem frozen_only {w w' : World} {g b : Nat} (hg : w.grownBy w' (some g)) (hb : b < w.heap.size) (hne : b ≠ g) (h : ∀ o, w.frozen? ⟨b, o, none⟩ = false) : ∀ o, w'.frozen? ⟨b, o, none⟩ = false :=
  fun o => (World.frozen?_of_block (w := w) (hg.block b hb (by intro e; exact hne (by injection e)))).trans (h o)
end Go.Proofs.YtajcbppndkkbpaaGreatDoor
