/- What a law keeps in its hands while it calls: the argument's boxes, and a work with its cam in blocks of their own. No conditions. -/
import Derived.Test.YtbmiamfgdjiodaaSet2
import Derived.Test.YtbmiamfgdjiodaaMarkCal
import Derived.Test.YtbmiamfgdjiodaaPerpKit
namespace Go.Proofs.Ytbmiamfgdjiodaa
open Go.RowKit
set_option linter.unusedVariables false
set_option linter.unusedSimpArgs false
theorem alb (w : World) (o : Obj) : Below w.heap.size w (w.alloc o) := (Below.refl _ _).alloc (Nat.le_refl _) o
theorem Outer.of_own {W W' : World} {lo hi n c : Nat} {A : Option Addr} {zs : List Int} (h : OwnIn W lo hi A n c zs) (hg : W.grownBy W' (Value.slice A n c).ownBlock) : Outer W W' lo hi :=
  ⟨hg.os, hg.tape, hg.output, hg.size, fun b hb ho => hg.block b hb (fun e => by have := h.blk b (by rw [← e]); omega)⟩
/-- the boxes of the arguments: a calendar, a date -/
structure LD (w W : World) (nm : ByteArray) (A A' : Option Addr) (n n' c c' : Nat) (cw y m d : Int) : Prop where
  cal : CalAt W w.heap.size nm A A' n n' c c' cw
  dt : DatAt W (w.heap.size + 1) y m d
  bl : Below w.heap.size w W
section
variable {w W W' : World} {nm : ByteArray} {A A' : Option Addr} {n n' c c' a b : Nat} {cw y m d : Int}
theorem LD.outer (h : LD w W nm A A' n n' c c' cw y m d) (ho : Outer W W' a b) (ha : w.heap.size + 1 + 1 ≤ a) : LD w W' nm A A' n n' c c' cw y m d := by
  have h0 := ho.block _ h.cal.lt (.inl (by omega))
  have hc : ∀ o, W'.cell? ⟨w.heap.size, o, none⟩ = W.cell? ⟨w.heap.size, o, none⟩ := fun o => World.cell?_of_block (w := W) h0
  exact ⟨⟨Nat.lt_of_lt_of_le h.cal.lt ho.size, (hc 0).trans h.cal.c0, (hc 1).trans h.cal.c1, (hc 2).trans h.cal.c2, (hc 3).trans h.cal.c3⟩, h.dt.keep (ho.block _ h.dt.lt (.inl (by omega))), ho.below h.bl (by omega)⟩
theorem LD.call (h : LD w W nm A A' n n' c c' cw y m d) (hb : Below W.heap.size W W') : LD w W' nm A A' n n' c c' cw y m d := ⟨h.cal.call hb, h.dt.call hb, h.bl.trans (hb.mono h.bl.size)⟩
theorem LD.start (w : World) (t t2 : TypeId) (nm : ByteArray) (A A' : Option Addr) (n n' c c' : Nat) (cw y m d : Int) :
    LD w ((w.alloc (.cells #[.string nm, .slice A n c, .slice A' n' c', .int .i64 cw] t)).alloc (.cells #[.int .i64 y, .int .i64 m, .int .i64 d] t2)) nm A A' n n' c c' cw y m d := by
  have hd := dat_new (w.alloc (.cells #[.string nm, .slice A n c, .slice A' n' c', .int .i64 cw] t)) t2 y m d
  exact ⟨(cal_new w t nm A A' n n' c c' cw).call (alb _ _), by simpa using hd, ((Below.refl w.heap.size w).alloc (Nat.le_refl _) _).alloc (by simp) _⟩
end
/-- a work in block g, its cam in another block, both from lo to hi -/
structure QQ (W : World) (lo hi g : Nat) (S : Option Addr) (mm c : Nat) (ys : List Int) (a1 a2 a3 a4 a5 a6 : Int) : Prop where
  wk : Work W g (.slice S mm c) a1 a2 a3 a4 a5 a6
  ow : OwnIn W lo hi S mm c ys
  ne : ∀ ad, S = some ad → ad.block ≠ g
  gl : lo ≤ g
  gh : g < hi
  hh : hi ≤ W.heap.size
section
variable {w W W' : World} {lo hi g mm c a b : Nat} {S : Option Addr} {ys zs : List Int} {a1 a2 a3 a4 a5 a6 : Int}
theorem QQ.outer (h : QQ W lo hi g S mm c ys a1 a2 a3 a4 a5 a6) (ho : Outer W W' a b) (hd : hi ≤ a ∨ b ≤ lo) : QQ W' lo hi g S mm c ys a1 a2 a3 a4 a5 a6 := by
  have h1 := h.gl
  have h2 := h.gh
  have h3 := h.hh
  exact ⟨h.wk.keep (ho.block g (by omega) (by omega)), h.ow.keep (fun q _ _ => ho.block q (by omega) (by omega)), h.ne, h1, h2, Nat.le_trans h3 ho.size⟩
theorem QQ.call (h : QQ W lo hi g S mm c ys a1 a2 a3 a4 a5 a6) (hb : Below W.heap.size W W') : QQ W' lo hi g S mm c ys a1 a2 a3 a4 a5 a6 :=
  h.outer (Outer.of_below (lo := hi) (hi := hi) hb) (.inl (Nat.le_refl _))
theorem QQ.mark (h : QQ W lo hi g S mm c ys a1 a2 a3 a4 a5 a6) (h' : OwnIn W' lo hi S mm c zs) (hg : W.grownBy W' (Value.slice S mm c).ownBlock) : QQ W' lo hi g S mm c zs a1 a2 a3 a4 a5 a6 := by
  have h2 := h.gh
  have h3 := h.hh
  refine ⟨h.wk.keep (hg.block g (by omega) (fun e => ?_)), h', h.ne, h.gl, h.gh, Nat.le_trans h3 hg.size⟩
  cases S with
  | none => simp [Value.ownBlock] at e
  | some ad =>
    have := h.ne ad rfl
    simp [Value.ownBlock] at e
    first | exact this e | exact this e.symm | (obtain ⟨_, e⟩ := e; first | exact this e | exact this e.symm)
/-- what a call that gives a work leaves: the work in a new block, its cam in another new one -/
def Res (W0 W : World) (p : Value) (mm : Nat) (G : List Int) (a1 a2 a3 a4 a5 a6 : Int) : Prop := ∃ g S c, p = .pointer (some ⟨g, 0, none⟩) ∧ QQ W W0.heap.size W.heap.size g S mm c G a1 a2 a3 a4 a5 a6 ∧ Below W0.heap.size W0 W
theorem own_lo {w : World} {base n c : Nat} {A : Option Addr} {zs : List Int} (h : Own w base A n c zs) : ∀ ad, A = some ad → base ≤ ad.block ∧ ad.block < w.heap.size := fun ad e => by
  rcases h.form with ⟨h0, _⟩ | ⟨g', h0, hg', hl⟩
  · rw [h0] at e; cases e
  · rw [h0] at e
    injection e with e
    have e2 := congrArg Addr.block e
    simp at e2
    omega
theorem res_new {W0 : World} {base : Nat} (t : TypeId) (ho : Own W base S mm c ys) (hb : W0.heap.size ≤ base) (BW : Below W0.heap.size W0 W) : Res W0 (W.alloc (.cells #[.slice S mm c, .int .i64 a1, .int .i64 a2, .int .i64 a3, .int .i64 a4, .int .i64 a5, .int .i64 a6] t)) (.pointer (some ⟨W.heap.size, 0, none⟩)) mm ys a1 a2 a3 a4 a5 a6 := by
  have h1 := own_lo ho
  have h2 := BW.size
  refine ⟨W.heap.size, S, c, rfl, ⟨work_new _ _ _ _ _ _ _ _ _, ⟨Own.low (Own.call ho (alb _ _)) hb, fun ad e => by have := h1 ad e; simp; omega⟩, fun ad e => by have := h1 ad e; omega, h2, by simp, Nat.le_refl _⟩, BW.trans ((alb _ _).mono h2)⟩
theorem res_set {W0 : World} {base : Nat} (WG : Work W g (.slice none 0 0) 0 0 0 0 0 0) (ho : Own W base S mm c ys) (hg : g < base) (h0 : W0.heap.size ≤ g) (BW : Below W0.heap.size W0 W) :
    Res W0 (((((((W.setCell ⟨g, 0, none⟩ (.slice S mm c)).setCell ⟨g, 1, none⟩ (.int .i64 a1)).setCell ⟨g, 2, none⟩ (.int .i64 a2)).setCell ⟨g, 3, none⟩ (.int .i64 a3)).setCell ⟨g, 4, none⟩ (.int .i64 a4)).setCell ⟨g, 5, none⟩ (.int .i64 a5)).setCell ⟨g, 6, none⟩ (.int .i64 a6)) (.pointer (some ⟨g, 0, none⟩)) mm ys a1 a2 a3 a4 a5 a6 := by
  have h1 := own_lo ho
  have h2 := BW.size
  have h3 := WG.lt
  refine ⟨g, S, c, rfl, ⟨work_set7 WG _ _ _ _ _ _ _, ⟨Own.low (Own.block ho (fun b hb _ => set7_heap _ (by omega))) (by omega), fun ad e => by have := h1 ad e; simp; omega⟩, fun ad e => by have := h1 ad e; omega, h0, by simp; omega, Nat.le_refl _⟩, below_set7 BW h0⟩
end
end Go.Proofs.Ytbmiamfgdjiodaa
