/- Rows of structs of three cells each: what reads them, in one word; months and rules of leap years. No conditions. -/
import Derived.Test.YthjldjbblaioaaaInts
import Derived.Lib.AppendIntMem
namespace Go.Proofs.Ythjldjbblaioaaa
open Go.RowKit
set_option linter.unusedVariables false
set_option linter.unusedSimpArgs false
/-- an element: its three cells -/
abbrev T3 := Value × Value × Value
def t0 : T3 := (.int .i64 0, .int .i64 0, .int .i64 0)
/-- a row in block b from off on: three cells for each element -/
def Tri (w : World) (B : Nat) (A : Option Addr) (n : Nat) (es : List T3) : Prop := es.length = n ∧ (0 < n → ∃ b off, A = some ⟨b, off, none⟩ ∧ b < B ∧ ∀ j, j < n → w.cell? ⟨b, off + j * 3, none⟩ = some (es.getD j t0).1 ∧ w.cell? ⟨b, off + j * 3 + 1, none⟩ = some (es.getD j t0).2.1 ∧ w.cell? ⟨b, off + j * 3 + 2, none⟩ = some (es.getD j t0).2.2)
section
variable {w w' : World} {B B' n : Nat} {A : Option Addr} {es : List T3}
theorem Tri.len (h : Tri w B A n es) : es.length = n := h.1
theorem Tri.at_ (h : Tri w B A n es) {k : Nat} (hk : k < n) : ∃ b off, A = some ⟨b, off, none⟩ ∧ b < B ∧ w.cell? ⟨b, off + k * 3, none⟩ = some (es.getD k t0).1 ∧ w.cell? ⟨b, off + k * 3 + 1, none⟩ = some (es.getD k t0).2.1 ∧ w.cell? ⟨b, off + k * 3 + 2, none⟩ = some (es.getD k t0).2.2 := by
  obtain ⟨b, off, e, hb, hc⟩ := h.2 (by omega)
  exact ⟨b, off, e, hb, hc k hk⟩
theorem Tri.keep (h : Tri w B A n es) (hk : ∀ p : Addr, p.block < B → w'.cell? p = w.cell? p) : Tri w' B A n es := by
  refine ⟨h.1, fun h0 => ?_⟩
  obtain ⟨b, off, e, hb, hc⟩ := h.2 h0
  refine ⟨b, off, e, hb, fun j hj => ?_⟩
  obtain ⟨c1, c2, c3⟩ := hc j hj
  exact ⟨(hk _ hb).trans c1, (hk _ hb).trans c2, (hk _ hb).trans c3⟩
theorem Tri.more (h : Tri w B A n es) (hB : B ≤ B') : Tri w B' A n es := by
  refine ⟨h.1, fun h0 => ?_⟩
  obtain ⟨b, off, e, hb, hc⟩ := h.2 h0
  exact ⟨b, off, e, by omega, hc⟩
theorem Tri.below (h : Tri w B A n es) (hb : Below B w w') : Tri w' B A n es := h.keep fun _ hp => hb.cell hp
theorem Tri.call (h : Tri w B A n es) (hB : B ≤ w.heap.size) (hb : Below w.heap.size w w') : Tri w' B A n es := h.keep fun _ hp => hb.cell (by omega)
theorem Tri.alloc (h : Tri w B A n es) (hB : B ≤ w.heap.size) (o : Obj) : Tri (w.alloc o) B A n es := h.keep fun p hp => World.cell?_alloc_lt w o p (by omega)
theorem Tri.setCell (h : Tri w B A n es) {p : Addr} (hB : B ≤ p.block) (u : Value) : Tri (w.setCell p u) B A n es := by
  have hb : Below B w (w.setCell p u) := (Below.refl B w).setCell hB u
  exact h.below hb
theorem Tri.nil_ : Tri w B A 0 [] := ⟨rfl, fun h => absurd h (by omega)⟩
end
/-- the cells of a row -/
def flat (es : List T3) : List Value := es.flatMap fun e => [e.1, e.2.1, e.2.2]
theorem flat_cons (e : T3) (es : List T3) : flat (e :: es) = e.1 :: e.2.1 :: e.2.2 :: flat es := rfl
theorem flat_len : ∀ es : List T3, (flat es).length = 3 * es.length
  | [] => rfl
  | e :: es => by rw [flat_cons]; simp only [List.length_cons]; rw [flat_len es]; omega
theorem flat_at : ∀ (es : List T3) (k : Nat), k < es.length → (flat es)[k * 3]? = some (es.getD k t0).1 ∧ (flat es)[k * 3 + 1]? = some (es.getD k t0).2.1 ∧ (flat es)[k * 3 + 2]? = some (es.getD k t0).2.2
  | [], k, h => by simp at h
  | e :: es, 0, _ => by rw [flat_cons]; exact ⟨rfl, rfl, rfl⟩
  | e :: es, k + 1, h => by
    have ih := flat_at es k (by simpa using h)
    have e1 : (k + 1) * 3 = k * 3 + 3 := by omega
    rw [flat_cons, e1]
    exact ih
theorem flat_set : ∀ (es : List T3) (k : Nat) (x : T3), k < es.length → (((flat es).set (k * 3) x.1).set (k * 3 + 1) x.2.1).set (k * 3 + 2) x.2.2 = flat (es.set k x)
  | [], k, x, h => by simp at h
  | e :: es, 0, x, _ => rfl
  | e :: es, k + 1, x, h => by
    have ih := flat_set es k x (by simpa using h)
    show (((e.1 :: e.2.1 :: e.2.2 :: flat es).set ((k + 1) * 3) x.1).set ((k + 1) * 3 + 1) x.2.1).set ((k + 1) * 3 + 2) x.2.2 = e.1 :: e.2.1 :: e.2.2 :: flat (es.set k x)
    rw [show (k + 1) * 3 = k * 3 + 3 by omega, ← ih]
    rfl
/-- the first k elements of es, zeros behind them -/
def part3 (z : T3) (es : List T3) (k : Nat) : List T3 := es.take k ++ List.replicate (es.length - k) z
theorem part3_len (z : T3) (es : List T3) (k : Nat) (hk : k ≤ es.length) : (part3 z es k).length = es.length := by simp [part3]; omega
theorem part3_full (z : T3) (es : List T3) : part3 z es es.length = es := by simp [part3]
theorem part3_none (z : T3) (es : List T3) : part3 z es 0 = List.replicate es.length z := by simp [part3]
theorem part3_set (z : T3) (es : List T3) (k : Nat) (hk : k < es.length) : (part3 z es k).set k (es.getD k t0) = part3 z es (k + 1) := by
  have hl : (es.take k).length = k := by simp; omega
  unfold part3
  rw [List.set_append_right _ _ (by omega), hl, Nat.sub_self]
  have e1 : es.length - k = (es.length - (k + 1)) + 1 := by omega
  rw [e1, List.replicate_succ, List.set_cons_zero, List.take_succ_eq_append_getElem hk, List.append_assoc]
  congr 2
  rw [List.getD_eq_getElem?_getD, List.getElem?_eq_getElem hk]; rfl
/-- a row of the call's own -/
def Own3 (w : World) (t : TypeId) (base : Nat) (A : Option Addr) (n c : Nat) (es : List T3) : Prop := w.ownsRow base t 3 (.slice A n c) n (flat es)
section
variable {w w' : World} {base B n c : Nat} {A : Option Addr} {es : List T3} {t : TypeId}
theorem Own3.len (h : Own3 w t base A n c es) : es.length = n := by have := h.1; rw [flat_len] at this; omega
theorem Own3.tri (h : Own3 w t base A n c es) (hB : w.heap.size ≤ B) : Tri w B A n es := by
  have hl := h.len
  refine ⟨hl, fun h0 => ?_⟩
  rcases h.2 with ⟨_, h1⟩ | ⟨g, cap, cur, e, hb, hg, _⟩
  · omega
  · injection e with e1 e2 e3
    subst e1
    have hgl : g < w.heap.size := (Array.getElem?_eq_some_iff.1 hg).1
    have hx : ∀ j, j < n * 3 → w.cell? ⟨g, j, none⟩ = (flat es)[j]? := fun j hj => World.ownsRow.cellAt h j hj
    refine ⟨g, 0, rfl, by omega, fun j hj => ?_⟩
    obtain ⟨f1, f2, f3⟩ := flat_at es j (by omega)
    rw [Nat.zero_add]
    exact ⟨(hx _ (by omega)).trans f1, (hx _ (by omega)).trans f2, (hx _ (by omega)).trans f3⟩
theorem Own3.form (h : Own3 w t base (some ⟨base, 0, none⟩) n c es) (h0 : 0 < n) : base < w.heap.size := by
  rcases h.2 with ⟨_, h1⟩ | ⟨g, cap, cur, e, hb, hg, _⟩
  · omega
  · injection e with e1
    injection e1 with e1
    injection e1 with e1
    subst e1
    exact (Array.getElem?_eq_some_iff.1 hg).1
theorem Own3.store {g k : Nat} {x : T3} (h : Own3 w t base (some ⟨g, 0, none⟩) n c es) (hk : k < es.length) : Own3 (((w.setCell ⟨g, k * 3, none⟩ x.1).setCell ⟨g, k * 3 + 1, none⟩ x.2.1).setCell ⟨g, k * 3 + 2, none⟩ x.2.2) t base (some ⟨g, 0, none⟩) n c (es.set k x) := by
  unfold Own3
  rw [← flat_set es k x hk]
  exact (World.ownsRow.stored (World.ownsRow.stored (World.ownsRow.stored h (k * 3) x.1).1 (k * 3 + 1) x.2.1).1 (k * 3 + 2) x.2.2).1
theorem own_call {v : Value} {xs : List Value} {size : Nat} (h : w.ownsRow base t size v n xs) (hb : Below w.heap.size w w') : w'.ownsRow base t size v n xs := by
  refine ⟨h.1, ?_⟩
  rcases h.2 with h0 | ⟨g2, cap, cur, e2, hb2, hg, hr⟩
  · exact .inl h0
  · exact .inr ⟨g2, cap, cur, e2, hb2, by rw [hb.block g2 (Array.getElem?_eq_some_iff.1 hg).1]; exact hg, hr⟩
end
/-- a month, a rule -/
structure Mth where
  nm : ByteArray
  dy : Int
  lp : Int
structure Rul where
  ev : Int
  rs : Int
  lp : Bool
def mT (m : Mth) : T3 := (.string m.nm, .int .i64 m.dy, .int .i64 m.lp)
def rT (r : Rul) : T3 := (.int .i64 r.ev, .int .i64 r.rs, .bool r.lp)
def m0 : Mth := ⟨⟨#[]⟩, 0, 0⟩
def r0 : Rul := ⟨0, 0, false⟩
theorem mT_at (ms : List Mth) {k : Nat} (hk : k < ms.length) : (ms.map mT).getD k t0 = mT (ms.getD k m0) := by
  simp [List.getD_eq_getElem?_getD, List.getElem?_map, List.getElem?_eq_getElem hk]
theorem rT_at (rs : List Rul) {k : Nat} (hk : k < rs.length) : (rs.map rT).getD k t0 = rT (rs.getD k r0) := by
  simp [List.getD_eq_getElem?_getD, List.getElem?_map, List.getElem?_eq_getElem hk]
def Months (w : World) (B : Nat) (A : Option Addr) (n : Nat) (ms : List Mth) : Prop := Tri w B A n (ms.map mT)
def Rules (w : World) (B : Nat) (A : Option Addr) (n : Nat) (rs : List Rul) : Prop := Tri w B A n (rs.map rT)
theorem Months.len {w : World} {B n : Nat} {A : Option Addr} {ms : List Mth} (h : Months w B A n ms) : ms.length = n := by simpa using Tri.len h
theorem Rules.len {w : World} {B n : Nat} {A : Option Addr} {rs : List Rul} (h : Rules w B A n rs) : rs.length = n := by simpa using Tri.len h
theorem Months.at_ {w : World} {B n k : Nat} {A : Option Addr} {ms : List Mth} (h : Months w B A n ms) (hk : k < n) : ∃ b off, A = some ⟨b, off, none⟩ ∧ b < B ∧ w.cell? ⟨b, off + k * 3, none⟩ = some (.string (ms.getD k m0).nm) ∧ w.cell? ⟨b, off + k * 3 + 1, none⟩ = some (.int .i64 (ms.getD k m0).dy) ∧ w.cell? ⟨b, off + k * 3 + 2, none⟩ = some (.int .i64 (ms.getD k m0).lp) := by
  have := Tri.at_ h hk
  rwa [mT_at ms (by rw [h.len]; exact hk)] at this
theorem Rules.at_ {w : World} {B n k : Nat} {A : Option Addr} {rs : List Rul} (h : Rules w B A n rs) (hk : k < n) : ∃ b off, A = some ⟨b, off, none⟩ ∧ b < B ∧ w.cell? ⟨b, off + k * 3, none⟩ = some (.int .i64 (rs.getD k r0).ev) ∧ w.cell? ⟨b, off + k * 3 + 1, none⟩ = some (.int .i64 (rs.getD k r0).rs) ∧ w.cell? ⟨b, off + k * 3 + 2, none⟩ = some (.bool (rs.getD k r0).lp) := by
  have := Tri.at_ h hk
  rwa [rT_at rs (by rw [h.len]; exact hk)] at this
set_option maxHeartbeats 400000 in
theorem szMonth_any (m : Mth) (left : Int) (w : World) (h1 : 0 ≤ left) (h2 : left ≤ 1048576) (hn : m.nm.size ≤ 9223372036854775807) :
    Calls Try.prog 109 #[.agg #[.string m.nm, .int .i64 m.dy, .int .i64 m.lp], .int .i64 left] w fun e w' => e = .returned (.int .i64 (if left < m.nm.size then -1 else left - m.nm.size)) ∧ Below w.heap.size w w' := by
  by_cases h : left < m.nm.size
  · rw [if_pos h]
    go_enter Try.func109, Try.ntmps109
    go_wp2
    go_ret
    exact ⟨rfl, by (repeat (first | with_reducible exact Below.refl _ _ | with_reducible refine below_alloc ?_ _ | with_reducible refine below_drewN ?_ _ | with_reducible refine Below.drew ?_ | ((with_reducible refine below_set ?_ ?_ _); rotate_left; (focus (first | (simp; done) | (simp; omega) | omega))) | with_reducible refine below_call ?_ (by assumption)))⟩
  · rw [if_neg h]
    go_enter Try.func109, Try.ntmps109
    go_wp2
    go_ret
    exact ⟨rfl, by (repeat (first | with_reducible exact Below.refl _ _ | with_reducible refine below_alloc ?_ _ | with_reducible refine below_drewN ?_ _ | with_reducible refine Below.drew ?_ | ((with_reducible refine below_set ?_ ?_ _); rotate_left; (focus (first | (simp; done) | (simp; omega) | omega))) | with_reducible refine below_call ?_ (by assumption)))⟩
end Go.Proofs.Ythjldjbblaioaaa
