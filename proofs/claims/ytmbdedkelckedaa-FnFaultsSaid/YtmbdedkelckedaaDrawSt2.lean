/- What a draw of a work keeps in its hands. No conditions. -/
import Derived.Test.YtmbdedkelckedaaCore9
import Derived.Test.YtmbdedkelckedaaSetPlain
import Derived.Test.YtmbdedkelckedaaSet2
namespace Go.Proofs.Ytmbdedkelckedaa
open Go.RowKit
set_option linter.unusedVariables false
set_option linter.unusedSimpArgs false
/-- a row of numbers in blocks from lo to hi -/
def IntsIn (W : World) (lo hi : Nat) (A : Option Addr) (n : Nat) (zs : List Int) : Prop := Ints W hi A n zs ∧ ∀ ad, A = some ad → lo ≤ ad.block
section
variable {W W' : World} {lo lo' hi hi' n c g base b : Nat} {A : Option Addr} {zs : List Int}
theorem IntsIn.keep (h : IntsIn W lo hi A n zs) (hk : ∀ p : Addr, lo ≤ p.block → p.block < hi → W'.cell? p = W.cell? p) : IntsIn W' lo hi A n zs :=
  ⟨⟨h.1.1, fun hn => by
    obtain ⟨b, off, e, hb, hc⟩ := h.1.2 hn
    exact ⟨b, off, e, hb, fun j hj => (hk ⟨b, off + j, none⟩ (h.2 ⟨b, off, none⟩ e) hb).trans (hc j hj)⟩⟩, h.2⟩
theorem IntsIn.more (h : IntsIn W lo hi A n zs) (hh : hi ≤ hi') : IntsIn W lo hi' A n zs := ⟨h.1.more hh, h.2⟩
theorem IntsIn.low (h : IntsIn W lo hi A n zs) (hh : lo' ≤ lo) : IntsIn W lo' hi A n zs := ⟨h.1, fun ad e => Nat.le_trans hh (h.2 ad e)⟩
theorem IntsIn.call (h : IntsIn W lo hi A n zs) (hb : Below W.heap.size W W') (hh : hi ≤ W.heap.size) : IntsIn W' lo hi A n zs := h.keep fun p _ h2 => hb.cell (by omega)
theorem IntsIn.only (h : IntsIn W lo hi A n zs) (hg : W.grownBy W' (some g)) (hl : g < lo) (hh : hi ≤ W.heap.size) : IntsIn W' lo hi A n zs :=
  h.keep fun p h1 h2 => World.cell?_of_block (w := W) (hg.block p.block (by omega) (by intro e; injection e with e; omega))
theorem IntsIn.of (h : Own W base A n c zs) : IntsIn W base W.heap.size A n zs := by
  refine ⟨h.ints (Nat.le_refl _), fun ad e => ?_⟩
  rcases h.form with ⟨h0, _⟩ | ⟨g', h0, hg', hl⟩
  · rw [h0] at e; cases e
  · rw [h0] at e
    injection e with e
    have e2 := congrArg Addr.block e
    simp at e2
    omega
theorem set3_keep {v0 v1 v2 : Value} (W : World) {p : Addr} (h : p.block ≠ b) : (((W.setCell ⟨b, 0, none⟩ v0).setCell ⟨b, 1, none⟩ v1).setCell ⟨b, 2, none⟩ v2).cell? p = W.cell? p := World.cell?_of_block (w := W) (set3_heap W h)
theorem set7_keep {v0 v1 v2 v3 v4 v5 v6 : Value} (W : World) {p : Addr} (h : p.block ≠ b) : (((((((W.setCell ⟨b, 0, none⟩ v0).setCell ⟨b, 1, none⟩ v1).setCell ⟨b, 2, none⟩ v2).setCell ⟨b, 3, none⟩ v3).setCell ⟨b, 4, none⟩ v4).setCell ⟨b, 5, none⟩ v5).setCell ⟨b, 6, none⟩ v6).cell? p = W.cell? p := World.cell?_of_block (w := W) (set7_heap W h)
theorem only_set7 {a : World} {v0 v1 v2 v3 v4 v5 v6 : Value} (h : a.grownBy W (some g)) (hb : a.heap.size ≤ b) : a.grownBy (((((((W.setCell ⟨b, 0, none⟩ v0).setCell ⟨b, 1, none⟩ v1).setCell ⟨b, 2, none⟩ v2).setCell ⟨b, 3, none⟩ v3).setCell ⟨b, 4, none⟩ v4).setCell ⟨b, 5, none⟩ v5).setCell ⟨b, 6, none⟩ v6) (some g) :=
  only_setCell (only_setCell (only_setCell (only_setCell (only_setCell (only_setCell (only_setCell h (.inr hb) _) (.inr hb) _) (.inr hb) _) (.inr hb) _) (.inr hb) _) (.inr hb) _) (.inr hb) _
end
/-- a calendar, a day of it and a work, in one -/
def stV (nm : ByteArray) (A1 A2 L : Option Addr) (n1 n2 c1 c2 l cc : Nat) (we y m d mo te ix da wk wd : Int) : Value :=
  .tuple #[.agg #[.string nm, .slice A1 n1 c1, .slice A2 n2 c2, .int .i64 we], .agg #[.int .i64 y, .int .i64 m, .int .i64 d], .agg #[.slice L l cc, .int .i64 mo, .int .i64 te, .int .i64 ix, .int .i64 da, .int .i64 wk, .int .i64 wd]]
/-- a start: its rows in blocks from lo on, all valid -/
def GoodSt (lo : Nat) (W : World) (e : Ending) : Prop :=
  ∃ nm A1 A2 n1 n2 c1 c2 ms rs we y m d L l cc zs te K da wd, e = .returned (stV nm A1 A2 L n1 n2 c1 c2 l cc we y m d (n1 : Int) te ((K : Nat) : Int) da we wd) ∧ TriIn W lo W.heap.size A1 n1 (List.map mT ms) ∧ TriIn W lo W.heap.size A2 n2 (List.map rT rs) ∧ n1 ≤ c1 ∧ c1 ≤ 9223372036854775807 ∧ vCal nm n1 n2 ms rs we = true ∧
    dOk ms rs n1 n2 y m d = true ∧ IntsIn W lo W.heap.size L l zs ∧ l ≤ cc ∧ cc ≤ 9223372036854775807 ∧ vPerp zs l (n1 : Int) te ((K : Nat) : Int) da we wd = true
/-- the places of the three results -/
structure RB (W : World) (q : Nat) : Prop where
  c : CalBx W q ⟨#[]⟩ none none 0 0 0 0 0
  d : DatAt W (q + 1) 0 0 0
  p : Work W (q + 1 + 1) (.slice none 0 0) 0 0 0 0 0 0
section
variable {W W' : World} {q g : Nat}
theorem RB.keep (h : RB W q) (hs : W.heap.size ≤ W'.heap.size) (hk : ∀ i, q ≤ i → i < q + 3 → W'.heap[i]? = W.heap[i]?) : RB W' q := ⟨h.c.keep hs (hk q (by omega) (by omega)), h.d.keep (hk _ (by omega) (by omega)), h.p.keep (hk _ (by omega) (by omega))⟩
theorem RB.top (h : RB W q) : q + 2 < W.heap.size := h.p.lt
theorem RB.call (h : RB W q) (hb : Below W.heap.size W W') : RB W' q := h.keep hb.size fun i _ h2 => hb.block i (by have := h.top; omega)
theorem RB.only (h : RB W q) (hg : W.grownBy W' (some g)) (hl : g < q ∨ q + 3 ≤ g) : RB W' q := h.keep hg.size fun i h1 h2 => hg.block i (by have := h.top; omega) (by intro e; injection e with e; omega)
theorem rb_new (w : World) (t t2 t3 : TypeId) : RB (((w.alloc (.cells #[.string ⟨#[]⟩, .slice none 0 0, .slice none 0 0, .int .i64 0] t)).alloc (.cells #[.int .i64 0, .int .i64 0, .int .i64 0] t2)).alloc (.cells #[.slice none 0 0, .int .i64 0, .int .i64 0, .int .i64 0, .int .i64 0, .int .i64 0, .int .i64 0] t3)) w.heap.size := by
  refine ⟨((calBx_new w t ⟨#[]⟩ none none 0 0 0 0 0).call (alb0 _ _)).call (alb0 _ _), ?_, ?_⟩
  · have := (dat_new (w.alloc (.cells #[.string ⟨#[]⟩, .slice none 0 0, .slice none 0 0, .int .i64 0] t)) t2 0 0 0).call (alb0 _ (.cells #[.slice none 0 0, .int .i64 0, .int .i64 0, .int .i64 0, .int .i64 0, .int .i64 0, .int .i64 0] t3))
    simpa using this
  · have := work_new ((w.alloc (.cells #[.string ⟨#[]⟩, .slice none 0 0, .slice none 0 0, .int .i64 0] t)).alloc (.cells #[.int .i64 0, .int .i64 0, .int .i64 0] t2)) t3 (.slice none 0 0) 0 0 0 0 0 0
    simpa using this
end
/-- the source, the results' places, the calendar: what each call leaves -/
structure SK (w W : World) (g : Nat) (A : Option Addr) (n c : Nat) (K : Int) (b lo hi : Nat) (nm : ByteArray) (A1 A2 : Option Addr) (n1 n2 c1 c2 : Nat) (we : Int) (ms : List Mth) (rs : List Rul) : Prop where
  src : Src W g A n c K
  gb : w.grownBy W (some g)
  rb : RB W w.heap.size
  cal : CalIn W b lo hi nm A1 A2 n1 n2 c1 c2 we ms rs
  gl : (g < w.heap.size ∨ w.heap.size + 3 ≤ g) ∧ g < lo
  ql : w.heap.size + 3 ≤ lo
  lb : lo ≤ b
  hb : hi ≤ b
section
variable {w W W' : World} {g n c b lo hi n1 n2 c1 c2 : Nat} {A A1 A2 : Option Addr} {K K' we : Int} {nm : ByteArray} {ms : List Mth} {rs : List Rul}
theorem SK.call (h : SK w W g A n c K b lo hi nm A1 A2 n1 n2 c1 c2 we ms rs) (hb : Below W.heap.size W W') : SK w W' g A n c K b lo hi nm A1 A2 n1 n2 c1 c2 we ms rs :=
  ⟨h.src.call hb, only_below h.gb hb, h.rb.call hb, h.cal.call hb, h.gl, h.ql, h.lb, h.hb⟩
theorem SK.draw (h : SK w W g A n c K b lo hi nm A1 A2 n1 n2 c1 c2 we ms rs) (hs : Src W' g A n c K') (hg : W.grownBy W' (some g)) : SK w W' g A n c K' b lo hi nm A1 A2 n1 n2 c1 c2 we ms rs := by
  have h1 := h.gl; have h2 := h.ql; have h3 := h.lb
  exact ⟨hs, h.gb.trans hg, h.rb.only hg h1.1, h.cal.only hg (by omega) (by omega), h1, h2, h3, h.hb⟩
theorem SK.more (h : SK w W g A n c K b lo hi nm A1 A2 n1 n2 c1 c2 we ms rs) (hK : K ≤ K') : SK w W g A n c K' b lo hi nm A1 A2 n1 n2 c1 c2 we ms rs := ⟨h.src.more hK, h.gb, h.rb, h.cal, h.gl, h.ql, h.lb, h.hb⟩
/-- stores into a block behind the calendar's -/
theorem SK.set7 {q : Nat} {v0 v1 v2 v3 v4 v5 v6 : Value} (h : SK w W g A n c K b lo hi nm A1 A2 n1 n2 c1 c2 we ms rs) (hq : b < q) :
    SK w (((((((W.setCell ⟨q, 0, none⟩ v0).setCell ⟨q, 1, none⟩ v1).setCell ⟨q, 2, none⟩ v2).setCell ⟨q, 3, none⟩ v3).setCell ⟨q, 4, none⟩ v4).setCell ⟨q, 5, none⟩ v5).setCell ⟨q, 6, none⟩ v6) g A n c K b lo hi nm A1 A2 n1 n2 c1 c2 we ms rs := by
  have h1 := h.gl; have h2 := h.ql; have h3 := h.lb; have h4 := h.hb
  have hz : (((((((W.setCell ⟨q, 0, none⟩ v0).setCell ⟨q, 1, none⟩ v1).setCell ⟨q, 2, none⟩ v2).setCell ⟨q, 3, none⟩ v3).setCell ⟨q, 4, none⟩ v4).setCell ⟨q, 5, none⟩ v5).setCell ⟨q, 6, none⟩ v6).heap.size = W.heap.size := by simp
  have hc : ∀ o, (((((((W.setCell ⟨q, 0, none⟩ v0).setCell ⟨q, 1, none⟩ v1).setCell ⟨q, 2, none⟩ v2).setCell ⟨q, 3, none⟩ v3).setCell ⟨q, 4, none⟩ v4).setCell ⟨q, 5, none⟩ v5).setCell ⟨q, 6, none⟩ v6).cell? ⟨b, o, none⟩ = W.cell? ⟨b, o, none⟩ := fun o => set7_keep W (by show b ≠ q; omega)
  exact ⟨h.src.keep (set7_heap _ (by omega)), only_set7 h.gb (by omega), h.rb.keep (by omega) (fun i _ _ => set7_heap _ (by omega)),
    ⟨⟨by rw [hz]; exact h.cal.at_.lt, (hc 0).trans h.cal.at_.c0, (hc 1).trans h.cal.at_.c1, (hc 2).trans h.cal.at_.c2, (hc 3).trans h.cal.at_.c3⟩, h.cal.m.keep (fun p _ _ => set7_keep W (by omega)), h.cal.r.keep (fun p _ _ => set7_keep W (by omega)), by rw [hz]; exact h.cal.hh⟩, h1, h2, h3, h4⟩
/-- stores into a block behind the calendar's -/
theorem SK.set3 {q : Nat} {v0 v1 v2 : Value} (h : SK w W g A n c K b lo hi nm A1 A2 n1 n2 c1 c2 we ms rs) (hq : b < q) :
    SK w (((W.setCell ⟨q, 0, none⟩ v0).setCell ⟨q, 1, none⟩ v1).setCell ⟨q, 2, none⟩ v2) g A n c K b lo hi nm A1 A2 n1 n2 c1 c2 we ms rs := by
  have h1 := h.gl; have h2 := h.ql; have h3 := h.lb; have h4 := h.hb
  have hz : (((W.setCell ⟨q, 0, none⟩ v0).setCell ⟨q, 1, none⟩ v1).setCell ⟨q, 2, none⟩ v2).heap.size = W.heap.size := by simp
  have hc : ∀ o, (((W.setCell ⟨q, 0, none⟩ v0).setCell ⟨q, 1, none⟩ v1).setCell ⟨q, 2, none⟩ v2).cell? ⟨b, o, none⟩ = W.cell? ⟨b, o, none⟩ := fun o => set3_keep W (by show b ≠ q; omega)
  exact ⟨h.src.keep (set3_heap _ (by omega)), only_set3 h.gb (by omega), h.rb.keep (by omega) (fun i _ _ => set3_heap _ (by omega)),
    ⟨⟨by rw [hz]; exact h.cal.at_.lt, (hc 0).trans h.cal.at_.c0, (hc 1).trans h.cal.at_.c1, (hc 2).trans h.cal.at_.c2, (hc 3).trans h.cal.at_.c3⟩, h.cal.m.keep (fun p _ _ => set3_keep W (by omega)), h.cal.r.keep (fun p _ _ => set3_keep W (by omega)), by rw [hz]; exact h.cal.hh⟩, h1, h2, h3, h4⟩
end
/-- a drawn work p in its place, beside all that is kept -/
def PX (w W : World) (g : Nat) (A : Option Addr) (n c : Nat) (K : Int) (b lo hi : Nat) (nm : ByteArray) (A1 A2 : Option Addr) (n1 n2 c1 c2 : Nat) (we : Int) (ms : List Mth) (rs : List Rul) (bd : Nat) (y m d : Int) (p : Value) : Prop :=
  ∃ bp L l cc zs te K0 da wd, p = .pointer (some ⟨bp, 0, none⟩) ∧ SK w W g A n c K b lo hi nm A1 A2 n1 n2 c1 c2 we ms rs ∧ DatAt W bd y m d ∧ Work W bp (.slice L l cc) (n1 : Int) te ((K0 : Nat) : Int) da we wd ∧ IntsIn W (b + 1) W.heap.size L l zs ∧ bd < bp ∧ l ≤ cc ∧ cc ≤ 9223372036854775807 ∧ vPerp zs l (n1 : Int) te ((K0 : Nat) : Int) da we wd = true
/-- the world behind the three stores of the results -/
def fin3 (W : World) (q : Nat) (nm : ByteArray) (A1 A2 L : Option Addr) (n1 n2 c1 c2 l cc : Nat) (we y m d mo te ix da wk wd : Int) : World :=
  (((((((((((((((W.setCell ⟨q, 0, none⟩ (.string nm)).setCell ⟨q, 1, none⟩ (.slice A1 n1 c1)).setCell ⟨q, 2, none⟩ (.slice A2 n2 c2)).setCell ⟨q, 3, none⟩ (.int .i64 we)).setCell ⟨q + 1, 0, none⟩ (.int .i64 y)).setCell ⟨q + 1, 1, none⟩ (.int .i64 m)).setCell ⟨q + 1, 2, none⟩ (.int .i64 d)).setCell ⟨q + 1 + 1, 0, none⟩ (.slice L l cc)).setCell ⟨q + 1 + 1, 1, none⟩ (.int .i64 mo)).setCell ⟨q + 1 + 1, 2, none⟩ (.int .i64 te)).setCell ⟨q + 1 + 1, 3, none⟩ (.int .i64 ix)).setCell ⟨q + 1 + 1, 4, none⟩ (.int .i64 da)).setCell ⟨q + 1 + 1, 5, none⟩ (.int .i64 wk)).setCell ⟨q + 1 + 1, 6, none⟩ (.int .i64 wd)))
theorem fin3_heap {W : World} {q i : Nat} {nm : ByteArray} {A1 A2 L : Option Addr} {n1 n2 c1 c2 l cc : Nat} {we y m d mo te ix da wk wd : Int} (h : i < q ∨ q + 3 ≤ i) : (fin3 W q nm A1 A2 L n1 n2 c1 c2 l cc we y m d mo te ix da wk wd).heap[i]? = W.heap[i]? :=
  (set7_heap _ (show i ≠ q + 1 + 1 by omega)).trans ((set3_heap _ (show i ≠ q + 1 by omega)).trans (set4_heap _ (show i ≠ q by omega)))
theorem CalBx.set4 {W : World} {b n n' c c' m m' d d' : Nat} {nm nm2 : ByteArray} {A A' L L' : Option Addr} {we we2 : Int} (h : CalBx W b nm A A' n n' c c' we) : CalBx ((((W.setCell ⟨b, 0, none⟩ (.string nm2)).setCell ⟨b, 1, none⟩ (.slice L m d)).setCell ⟨b, 2, none⟩ (.slice L' m' d')).setCell ⟨b, 3, none⟩ (.int .i64 we2)) b nm2 L L' m m' d d' we2 := by
  obtain ⟨⟨h0, h1, h2, h3, h4⟩, h5⟩ := h
  exact ⟨⟨by simpa using h0, by simp [go_sem, h1], by simp [go_sem, h2], by simp [go_sem, h3], by simp [go_sem, h4]⟩, fun o => by simp [go_sem, h5 o]⟩
structure Fin (w W : World) (g : Nat) (A : Option Addr) (n c : Nat) (K : Int) (nm : ByteArray) (A1 A2 L : Option Addr) (n1 n2 c1 c2 l cc : Nat) (ms : List Mth) (rs : List Rul) (zs : List Int) (we y m d mo te ix da wk wd : Int) : Prop where
  xc : CalAt W w.heap.size nm A1 A2 n1 n2 c1 c2 we
  xd : DatAt W (w.heap.size + 1) y m d
  xp : Work W (w.heap.size + 1 + 1) (.slice L l cc) mo te ix da wk wd
  xm : TriIn W (w.heap.size + 3) W.heap.size A1 n1 (ms.map mT)
  xr : TriIn W (w.heap.size + 3) W.heap.size A2 n2 (rs.map rT)
  xz : IntsIn W (w.heap.size + 3) W.heap.size L l zs
  src : Src W g A n c K
  gb : w.grownBy W (some g)
theorem fin_of {w W : World} {g n c b lo hi n1 n2 c1 c2 l cc base : Nat} {A A1 A2 L : Option Addr} {K we y m d mo te ix da wk wd : Int} {nm : ByteArray} {ms : List Mth} {rs : List Rul} {zs : List Int} (h : SK w W g A n c K b lo hi nm A1 A2 n1 n2 c1 c2 we ms rs) (hI : IntsIn W base W.heap.size L l zs) (hb : w.heap.size + 3 ≤ base) :
    Fin w (fin3 W w.heap.size nm A1 A2 L n1 n2 c1 c2 l cc we y m d mo te ix da wk wd) g A n c K nm A1 A2 L n1 n2 c1 c2 l cc ms rs zs we y m d mo te ix da wk wd := by
  have h1 := h.gl; have h2 := h.ql; have h3 := h.lb; have h4 := h.cal.hh
  have hz : (fin3 W w.heap.size nm A1 A2 L n1 n2 c1 c2 l cc we y m d mo te ix da wk wd).heap.size = W.heap.size := by unfold fin3; simp
  have hk : ∀ a : Addr, w.heap.size + 3 ≤ a.block → (fin3 W w.heap.size nm A1 A2 L n1 n2 c1 c2 l cc we y m d mo te ix da wk wd).cell? a = W.cell? a := fun a ha => World.cell?_of_block (w := W) (fin3_heap (.inr ha))
  refine ⟨?_, ?_, ?_, ((h.cal.m.keep (fun a ha _ => hk a (by omega))).low h2).more (by omega), ((h.cal.r.keep (fun a ha _ => hk a (by omega))).low h2).more (by omega), ((hI.keep (fun a ha _ => hk a (by omega))).low hb).more (by omega), h.src.keep (fin3_heap h1.1), only_set7 (only_set3 (only_set4 h.gb (Nat.le_refl _)) (by omega)) (by omega)⟩
  · exact ((CalBx.set4 h.rb.c).keep (by simp) ((set7_heap _ (by omega)).trans (set3_heap _ (by omega)))).cal
  · exact ((((h.rb.d.keep (set4_heap _ (by omega))).set0 y).set1 m).set2 d).keep (set7_heap _ (by omega))
  · exact work_set7 (h.rb.p.keep ((set3_heap _ (by omega)).trans (set4_heap _ (by omega)))) _ _ _ _ _ _ _
end Go.Proofs.Ytmbdedkelckedaa
