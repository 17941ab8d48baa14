/- Contracts of the program's and the reference's functions, several texts in one; what each says, and its conditions, stands at its head. -/
import Derived.Test.YtmbdedkelckedaaGreatDoorCore5
import Derived.Test.YtmbdedkelckedaaGreatDoorCore7
/- Rows of months and of rules that a draw makes: appends, and what stays as it was while the source is moved. No conditions but that a row stays below 10^6 elements. -/
namespace Go.Proofs.YtmbdedkelckedaaGreatDoor
open Go.RowKit
set_option linter.unusedVariables false
set_option linter.unusedSimpArgs false
/-- a row in blocks from lo to hi -/
def TriIn (w : World) (lo hi : Nat) (A : Option Addr) (n : Nat) (es : List T3) : Prop := Tri w hi A n es ∧ ∀ ad, A = some ad → lo ≤ ad.block
section
variable {w w' : World} {lo hi hi' n c base g : Nat} {A : Option Addr} {es : List T3} {t : TypeId}
theorem TriIn.keep (h : TriIn w lo hi A n es) (hk : ∀ p : Addr, lo ≤ p.block → p.block < hi → w'.cell? p = w.cell? p) : TriIn w' lo hi A n es := by
  refine ⟨⟨h.1.1, fun h0 => ?_⟩, h.2⟩
  obtain ⟨b, off, e, hb, hc⟩ := h.1.2 h0
  have hl := h.2 _ e
  refine ⟨b, off, e, hb, fun j hj => ?_⟩
  obtain ⟨c1, c2, c3⟩ := hc j hj
  exact ⟨(hk ⟨b, off + j * 3, none⟩ hl hb).trans c1, (hk ⟨b, off + j * 3 + 1, none⟩ hl hb).trans c2, (hk ⟨b, off + j * 3 + 2, none⟩ hl hb).trans c3⟩
theorem TriIn.more (h : TriIn w lo hi A n es) (hh : hi ≤ hi') : TriIn w lo hi' A n es := ⟨Tri.more h.1 hh, h.2⟩
theorem TriIn.only (h : TriIn w lo hi A n es) (hg : w.grownBy w' (some g)) (hl : g < lo) (hh : hi ≤ w.heap.size) : TriIn w' lo hi A n es :=
  h.keep fun p h1 h2 => World.cell?_of_block (w := w) (hg.block p.block (by omega) (by intro e; injection e with e; omega))
theorem TriIn.call (h : TriIn w lo hi A n es) (hb : Below w.heap.size w w') (hh : hi ≤ w.heap.size) : TriIn w' lo hi A n es := h.keep fun p h1 h2 => hb.cell (by omega)
theorem TriIn.low (h : TriIn w lo hi A n es) {lo' : Nat} (hl : lo' ≤ lo) : TriIn w lo' hi A n es := ⟨h.1, fun ad e => Nat.le_trans hl (h.2 ad e)⟩
theorem Own3.ad (h : Own3 w t base A n c es) : (A = none ∧ n = 0 ∧ c = 0) ∨ ∃ g, A = some ⟨g, 0, none⟩ ∧ base ≤ g ∧ g < w.heap.size ∧ n ≤ c := by
  rcases h.2 with ⟨h0, h1⟩ | ⟨g2, cap, cur, e2, hb2, hg, hr⟩
  · injection h0 with e1 e2 e3
    exact .inl ⟨e1, h1, e3⟩
  · injection e2 with e3 e4 e5
    subst e3
    exact .inr ⟨g2, rfl, hb2, (Array.getElem?_eq_some_iff.1 hg).1, by rw [e5]; exact hr.1⟩
theorem Own3.triIn (h : Own3 w t base A n c es) : TriIn w base w.heap.size A n es := by
  refine ⟨h.tri (Nat.le_refl _), fun ad e => ?_⟩
  rcases h.ad with ⟨h0, -, -⟩ | ⟨g, h0, hb, -, -⟩
  · rw [h0] at e; cases e
  · rw [h0] at e; cases e; exact hb
theorem Own3.cap (h : Own3 w t base A n c es) : n ≤ c := by
  rcases h.ad with ⟨_, h1, h2⟩ | ⟨_, _, _, _, h1⟩ <;> omega
theorem Own3.nil_ : Own3 w t base none 0 0 [] := World.ownsRow_nil w base t 3
theorem Own3.call (h : Own3 w t base A n c es) (hb : Below w.heap.size w w') : Own3 w' t base A n c es := own_call h hb
theorem Own3.blocks (h : Own3 w t base A n c es) (hk : ∀ b, base ≤ b → b < w.heap.size → w'.heap[b]? = w.heap[b]?) : Own3 w' t base A n c es := by
  refine ⟨h.1, ?_⟩
  rcases h.2 with h0 | ⟨g2, cap, cur, e2, hb2, hg, hr⟩
  · exact .inl h0
  · exact .inr ⟨g2, cap, cur, e2, hb2, by rw [hk g2 hb2 (Array.getElem?_eq_some_iff.1 hg).1]; exact hg, hr⟩
theorem Own3.only (h : Own3 w t base A n c es) (hg : w.grownBy w' (some g)) (hgb : g < base) : Own3 w' t base A n c es :=
  h.blocks fun b hb hl => hg.block b hl (by intro e; injection e with e; omega)
theorem Own3.far (h : Own3 w t base A n c es) {p : Addr} (hp : p.block < base) (u : Value) : Own3 (w.setCell p u) t base A n c es   := h.blocks fun b hb _ => Below.heap_setCell w p u b (by omega)
theorem Own3.lows (h : Own3 w t base A n c es) {b0 : Nat} (hb : b0 ≤ base) : Own3 w t b0 A n c es := by
  refine ⟨h.1, ?_⟩
  rcases h.2 with h0 | ⟨g2, cap, cur, e2, hb2, hg, hr⟩
  · exact .inl h0
  · exact .inr ⟨g2, cap, cur, e2, by omega, hg, hr⟩
theorem own3_empty {g : Nat} (t : TypeId) (hg : g = w.heap.size) (hb : base ≤ w.heap.size) : Own3 (w.alloc (.cells #[] t)) t base (some ⟨g, 0, none⟩) 0 0 [] := by
  subst hg
  exact World.ownsRow_lit w #[] 0 hb (Nat.zero_le _) (by simp)
end
theorem info_month : (Tryz.prog.info? 72).map (fun i => (i.zero, i.size, i.bytes)) = some (some (.agg #[.string ⟨#[]⟩, .int .i64 0, .int .i64 0]), 3, 32) := by kernel_rfl
theorem info_rule : (Tryz.prog.info? 99).map (fun i => (i.zero, i.size, i.bytes)) = some (some (.agg #[.int .i64 0, .int .i64 0, .bool false]), 3, 24) := by kernel_rfl
theorem flat_app (a b : List T3) : flat (a ++ b) = flat a ++ flat b := by simp [flat]
/-- append of one element of three cells -/
theorem wpList_app3 {ops : Array Oper} {rest : List Oper} {o : Oper} {a : Act} {Q : Exit → Act → World → Prop} (hgd : o.guard = none) (s x : Operand) (ts te : TypeId) (z : Value) (by_ : Nat)
    (hu : Tryz.prog.underlying ts = some (.slice te)) (hinf : (Tryz.prog.info? te).map (fun i => (i.zero, i.size, i.bytes)) = some (some z, 3, by_)) (hzc : z.cells.size = 3) (hby : by_ ≤ 1000)
    (ho : o.op = .call { callee := .builtin .append, args := #[s, x], argTypes := #[ts, ts] })
    (w : World) (base : Nat) (A : Option Addr) (n c : Nat) (es : List T3) (hs : a.eval s = .slice A n c) (hown : Own3 w te base A n c es) (g : Nat) (hx : a.eval x = .slice (some ⟨g, 0, none⟩) 1 1) (e : T3)
    (hc0 : w.cell? ⟨g, 0, none⟩ = some e.1) (hc1 : w.cell? ⟨g, 1, none⟩ = some e.2.1) (hc2 : w.cell? ⟨g, 2, none⟩ = some e.2.2) (h1 : ∀ u ∈ [e.1, e.2.1, e.2.2], u.oneCell' = true) (hn : n ≤ 1000000) (hb : base ≤ w.heap.size)
    (h : ∀ A' c' w', Own3 w' te base A' (n + 1) c' (es ++ [e]) → Below base w w' → wpList Tryz.prog ops Q rest (a.put o.dst (.slice A' (n + 1) c')) w') : wpList Tryz.prog ops Q (o :: rest) a w := by
  obtain ⟨i0, hi, hz0, hz1, hz2⟩ := info_parts hinf
  have hbb : (n + 1) * by_ ≤ 1000001 * 1000 := Nat.mul_le_mul (by omega) hby
  refine wpList_append_own_at (P := Tryz.prog) w hgd s x ts ho base te i0 z 3 by_ hu hi hz0 hz1 hz2 hzc (by omega) (.slice A n c) n (flat es) hs hown ⟨g, 0, none⟩ 1 1 [e.1, e.2.1, e.2.2] hx rfl
    (fun j u hj => ?_) h1 (by simp only [maxLen]; omega) (by omega) hb (fun v' w' h2 h3 _ _ => ?_)
  · match j, hj with
    | 0, hj => simp at hj; subst hj; simpa [Addr.add] using hc0
    | 1, hj => simp at hj; subst hj; simpa [Addr.add] using hc1
    | 2, hj => simp at hj; subst hj; simpa [Addr.add] using hc2
  · rcases h2.2 with ⟨_, h0⟩ | ⟨g2, cap, cur, e2, hr⟩
    · omega
    · subst e2
      refine h _ _ w' ?_ ((Below.refl base w).grown h3 hb (fun k hk => ?_))
      · have h4 : flat es ++ [e.1, e.2.1, e.2.2] = flat (es ++ [e]) := by rw [flat_app]; rfl
        rw [h4] at h2
        exact h2
      · rcases hown.ad with ⟨rfl, _⟩ | ⟨g', rfl, hg', _⟩
        · simp [Value.ownBlock] at hk
        · simp [Value.ownBlock] at hk; omega
/-- the same in a region that is walked by its law -/
theorem step_app3 {ops : Array Oper} {o : Oper} {a : Act} {K : Act → World → Prop} {Q : Exit → Act → World → Prop} {E : Prop} (hgd : o.guard = none) (s x : Operand) (ts te : TypeId) (z : Value) (by_ : Nat)
    (hu : Tryz.prog.underlying ts = some (.slice te)) (hinf : (Tryz.prog.info? te).map (fun i => (i.zero, i.size, i.bytes)) = some (some z, 3, by_)) (hzc : z.cells.size = 3) (hby : by_ ≤ 1000)
    (ho : o.op = .call { callee := .builtin .append, args := #[s, x], argTypes := #[ts, ts] })
    (w : World) (base : Nat) (A : Option Addr) (n c : Nat) (es : List T3) (hs : a.eval s = .slice A n c) (hown : Own3 w te base A n c es) (g : Nat) (hx : a.eval x = .slice (some ⟨g, 0, none⟩) 1 1) (e : T3)
    (hc0 : w.cell? ⟨g, 0, none⟩ = some e.1) (hc1 : w.cell? ⟨g, 1, none⟩ = some e.2.1) (hc2 : w.cell? ⟨g, 2, none⟩ = some e.2.2) (h1 : ∀ u ∈ [e.1, e.2.1, e.2.2], u.oneCell' = true) (hn : n ≤ 1000000) (hb : base ≤ w.heap.size)
    (h : ∀ A' c' w', Own3 w' te base A' (n + 1) c' (es ++ [e]) → Below base w w' → K (a.put o.dst (.slice A' (n + 1) c')) w') :
    if Region.wanted o (yielded ops a.tmps) = true then Oper.wp Tryz.prog o a w K Q else E := by
  obtain ⟨i0, hi, hz0, hz1, hz2⟩ := info_parts hinf
  have hbb : (n + 1) * by_ ≤ 1000001 * 1000 := Nat.mul_le_mul (by omega) hby
  have hw : Region.wanted o (yielded ops a.tmps) = true := by simp [Region.wanted, hgd]
  rw [if_pos hw]
  obtain ⟨v', w', hr, h2, h3, _, _⟩ := run_append_own_at (P := Tryz.prog) w base ts o.type te i0 z 3 by_ hu hi hz0 hz1 hz2 hzc (by omega) (.slice A n c) n (flat es) hown ⟨g, 0, none⟩ 1 1 [e.1, e.2.1, e.2.2] rfl
    (fun j u hj => by
      match j, hj with
      | 0, hj => simp at hj; subst hj; simpa [Addr.add] using hc0
      | 1, hj => simp at hj; subst hj; simpa [Addr.add] using hc1
      | 2, hj => simp at hj; subst hj; simpa [Addr.add] using hc2) h1 (by simp only [maxLen]; omega) (by omega) hb
  rcases h2.2 with ⟨_, h0⟩ | ⟨g2, cap, cur, e2, hr2⟩
  · omega
  · subst e2
    have h4 : flat es ++ [e.1, e.2.1, e.2.2] = flat (es ++ [e]) := by rw [flat_app]; rfl
    rw [h4] at h2
    unfold Oper.wp execOp
    simp only [ho, resolve, invoke, builtin, Sem.run_bind, Sem.run_pure, Result.andThen_ok, List.map_toArray, List.map_cons, List.map_nil, hs, hx, hr]
    refine h _ _ w' h2 ((Below.refl base w).grown h3 hb (fun k hk => ?_))
    rcases hown.ad with ⟨rfl, _⟩ | ⟨g', rfl, hg', _⟩
    · simp [Value.ownBlock] at hk
    · simp [Value.ownBlock] at hk; omega
theorem cell_belowB' {B : Nat} {w w' : World} {p : Addr} {v : Value} (hb : Below B w w') (hp : p.block < B) (h : w.cell? p = some v) : w'.cell? p = some v := (hb.cell hp).trans h
/-- a text among some -/
def Strs (w : World) (B : Nat) (A : Option Addr) (n : Nat) (ss : List ByteArray) : Prop :=
  ss.length = n ∧ ∃ b off, A = some ⟨b, off, none⟩ ∧ b < B ∧ ∀ j, j < n → w.cell? ⟨b, off + j, none⟩ = some (.string (ss.getD j ⟨#[]⟩))
set_option maxHeartbeats 1000000 in
theorem text_any (A X : Option Addr) (n c B g m cx : Nat) (ss : List ByteArray) (K : Int) (w : World) (h : Src w g A n c K) (hb : Byts w B A n) (hB : B ≤ g) (hn : n ≤ 4096) (hK : K ≤ 900000000) (hX : Strs w w.heap.size X m ss) (hg : ∀ ad, X = some ad → ad.block ≠ g) (hm : 1 ≤ m) (m2 : m ≤ 1048576) :
    Calls Tryz.prog 65 #[.pointer (some ⟨g, 0, none⟩), .slice X m cx] w (Drawn (fun v => ∃ x : ByteArray, v = .string x ∧ x ∈ ss) w g A n c (K + 2)) := by
  have H := Lib.hid h
  have HB := Lib.hid hb
  have hlt := h.lt
  obtain ⟨hl, b, off, rfl, hbl, hc⟩ := hX
  have hne : b ≠ g := by have := hg _ rfl; simpa using this
  clear h hb hg
  go_enter Tryz.func65, Tryz.ntmps65
  go_wp2_with fail
  go_at_call 59
  refine (pick_any A n c B g K m _ H.out HB.out hB hn hK (by omega)).mono ?_
  rintro e w1 ⟨v, ⟨x, rfl, x0, x1⟩, rfl, hs1, hg1⟩
  have S1 := Lib.hid hs1
  have hx : x < m := by split at x1 <;> omega
  obtain ⟨k, rfl⟩ := Int.eq_ofNat_of_zero_le x0
  have hk : k < m := by omega
  have hcell : w1.cell? ⟨b, off + k, none⟩ = some (.string (ss.getD k ⟨#[]⟩)) := hg1.cell (hc k hk) (by simpa using hne)
  have hmem : ss.getD k ⟨#[]⟩ ∈ ss := by rw [List.getD_eq_getElem?_getD, List.getElem?_eq_getElem (by omega)]; exact List.getElem_mem _
  have HM := Lib.hid hmem
  generalize ss.getD k ⟨#[]⟩ = z at *
  clear hs1 hc x1 hmem
  go_wp2
  go_ret
  exact ⟨_, ⟨z, rfl, HM.out⟩, rfl, S1.out, hg1⟩
end Go.Proofs.YtmbdedkelckedaaGreatDoor

/- The calendars that the reference has by name. No conditions. -/
namespace Go.Proofs.YtmbdedkelckedaaGreatDoor
open Go.RowKit
set_option linter.unusedVariables false
set_option linter.unusedSimpArgs false
def mName (k : Nat) : ByteArray := ⟨(109 :: Lib.decDigits k).toArray⟩
/-- months m1, m2 .. of d days -/
def eqL (d : Int) : Nat → List Mth
  | 0 => []
  | k + 1 => eqL d k ++ [⟨mName (k + 1), d, d⟩]
def gregL : List Rul := [⟨4, 0, true⟩, ⟨100, 0, false⟩, ⟨400, 0, true⟩]
def romN : List ByteArray := [⟨#[106, 97, 110]⟩, ⟨#[102, 101, 98]⟩, ⟨#[109, 97, 114]⟩, ⟨#[97, 112, 114]⟩, ⟨#[109, 97, 121]⟩, ⟨#[106, 117, 110]⟩, ⟨#[106, 117, 108]⟩, ⟨#[97, 117, 103]⟩, ⟨#[115, 101, 112]⟩, ⟨#[111, 99, 116]⟩, ⟨#[110, 111, 118]⟩, ⟨#[100, 101, 99]⟩]
def romD : List Int := [31, 28, 31, 30, 31, 30, 31, 31, 30, 31, 30, 31]
/-- the first k months of the romans, all years alike -/
def romK : Nat → List Mth
  | 0 => []
  | k + 1 => romK k ++ [⟨romN.getD k ⟨#[]⟩, romD.getD k 0, romD.getD k 0⟩]
def romL : List Mth := (romK 12).set 1 ⟨⟨#[102, 101, 98]⟩, 28, 29⟩
/-- a calendar that is valid, its rows in blocks from lo on -/
def GoodCal (lo : Nat) (w : World) (v : Value) : Prop :=
  ∃ nm A1 A2 n1 n2 c1 c2 ms rs we, v = .agg #[.string nm, .slice A1 n1 c1, .slice A2 n2 c2, .int .i64 we] ∧ TriIn w lo w.heap.size A1 n1 (List.map mT ms) ∧ TriIn w lo w.heap.size A2 n2 (List.map rT rs) ∧ n1 ≤ c1 ∧ c1 ≤ 9223372036854775807 ∧ vCal nm n1 n2 ms rs we = true
theorem Own3.capm {w : World} {base n c : Nat} {A : Option Addr} {es : List T3} {t : TypeId} (h : Own3 w t base A n c es) : c ≤ 9223372036854775807 := by
  rcases h.2 with ⟨h0, h1⟩ | ⟨g2, cap, cur, e2, hb2, hg, h1, h2, _⟩
  · injection h0 with e1 e2 e3; omega
  · injection e2 with e3 e4 e5
    subst e5
    unfold maxLen at h2; omega
theorem dec_small (k : Nat) (h : k < 100) : (Lib.decDigits k).length ≤ 2 := by
  by_cases h1 : k < 10
  · rw [Lib.decDigits_one h1]; simp
  · rw [Lib.decDigits_two h1 h]; simp
set_option maxHeartbeats 2000000 in
theorem l15Equal_any (N : Nat) (d : Int) (w : World) (hN : N ≤ 90) :
    Calls Tryz.prog 92 #[.int .i64 (N : Int), .int .i64 d] w fun e w' => ∃ A c, e = .returned (.slice A N c) ∧ Own3 w' 72 w.heap.size A N c ((eqL d N).map mT) ∧ Below w.heap.size w w' := by
  go_enter Tryz.func92, Tryz.ntmps92
  go_wp2
  go_loopw [5, 6] (fun a t wr => ∃ (k cc : Nat) (A : Option Addr), t = .int .i64 ((k + 1 : Nat) : Int) ∧ k ≤ N ∧ a = .slice A k cc ∧ Hid (Own3 wr 72 w.heap.size A k cc ((eqL d k).map mT)) ∧ Hid (Below w.heap.size w wr)) (fun _ t _ => N + 1 - (intOf t).toNat)
  case atStart => exact ⟨0, 0, _, rfl, Nat.zero_le _, rfl, Lib.hid (own3_empty _ rfl (Nat.le_refl _)), Lib.hid (alb' _ _)⟩
  case round =>
    obtain ⟨k, cc, A, rfl, hk, rfl, HO, HB⟩ := hrel
    by_cases hlt : k < N
    · have i1 : ((k + 1 : Nat) : Int) ≤ (N : Int) := by omega
      have f1 : ¬ (9223372036854775807 < 1 + (Lib.decDigits (k + 1)).length) := by
        have := dec_small (k + 1) (by omega); omega
      have HS := Lib.hid (show (⟨#[109]⟩ : ByteArray) ++ ⟨(Lib.decDigits (k + 1)).toArray⟩ = mName (k + 1) by
        rw [show (⟨#[109]⟩ : ByteArray) = ⟨([109] : List UInt8).toArray⟩ from rfl, str_app]; rfl)
      have HE := Lib.hid (show (eqL d (k + 1)).map mT = (eqL d k).map mT ++ [mT ⟨mName (k + 1), d, d⟩] by rw [eqL, List.map_append]; rfl)
      have zr := HB.out.size
      have CD := Lib.hid (fun W => l01Dec_any (k + 1) W (by omega))
      obtain ⟨S, hS⟩ : ∃ S, (⟨#[109]⟩ : ByteArray) ++ ⟨(Lib.decDigits (k + 1)).toArray⟩ = S := ⟨_, rfl⟩
      rw [hS] at HS
      go_wp2_with (first | (go_at_call 67; refine (CD.out _).mono ?_; rintro e w2 ⟨rfl, hb2⟩; have HO2 := Lib.hid (HO.out.call hb2); have HB2 := Lib.hid (below_call HB.out hb2); have z2 := hb2.size; clear hb2) | (at_builtin; refine wpList_app3 rfl _ _ 24 72 (.agg #[.string ⟨#[]⟩, .int .i64 0, .int .i64 0]) 32 Tryz.underlying24 info_month rfl (by omega) rfl _ w.heap.size A k cc _ rfl (Own3.call HO2.out (alb' _ _)) w2.heap.size rfl (mT ⟨mName (k + 1), d, d⟩) (by rw [← HS.out, ← hS]; simp [mT]) (by simp [mT]) (by simp [mT]) (by simp [mT, Value.oneCell']) (by omega) (by simp; omega) ?_; intro A5 c5 w5 ho5 hb5; have HO5 := Lib.hid ho5; have HB5 := Lib.hid ((HB2.out.alloc HB2.out.size _).trans hb5); clear ho5 hb5) | fail)
      go_roundw
      case rel => exact ⟨k + 1, c5, A5, by go_num, by omega, rfl, Lib.hid (by rw [HE.out]; exact HO5.out), HB5⟩
      case measure => simp [intOf]; omega
    · have hE : N = k := by omega
      subst hE
      have i1 : ¬ (((N + 1 : Nat) : Int) ≤ (N : Int)) := by omega
      go_wp2
      go_ret
      exact ⟨A, cc, rfl, HO.out, HB.out⟩
set_option maxHeartbeats 1000000 in
theorem l15Gregorian_any (w : World) :
    Calls Tryz.prog 93 #[] w fun e w' => ∃ A c, e = .returned (.slice A 3 c) ∧ Own3 w' 99 w.heap.size A 3 c (gregL.map rT) ∧ Below w.heap.size w w' := by
  go_enter Tryz.func93, Tryz.ntmps93
  go_wp2
  go_ret
  exact ⟨_, _, rfl, World.ownsRow_lit w #[.int .i64 4, .int .i64 0, .bool true, .int .i64 100, .int .i64 0, .bool false, .int .i64 400, .int .i64 0, .bool true] 3 (Nat.le_refl _) (by simp only [maxLen]; omega) (by simp), alb' _ _⟩
theorem lit_cell (w : World) (t : TypeId) (vs : List Value) (j : Nat) : (w.alloc (.cells vs.toArray t)).cell? ⟨w.heap.size, j, none⟩ = vs[j]? := by
  rw [World.cell?_alloc_new]; simp
theorem romN_cell (w : World) (t : TypeId) : ∀ j, j < 12 → (w.alloc (.cells (romN.map Value.string).toArray t)).cell? ⟨w.heap.size, j, none⟩ = some (.string (romN.getD j ⟨#[]⟩)) := fun j hj => by
  rw [lit_cell w t _ j, List.getElem?_map, List.getD_eq_getElem?_getD, List.getElem?_eq_getElem (by simpa [romN] using hj)]; rfl
theorem romD_cell (w : World) (t : TypeId) : ∀ j, j < 12 → (w.alloc (.cells (romD.map (Value.int .i64)).toArray t)).cell? ⟨w.heap.size, j, none⟩ = some (.int .i64 (romD.getD j 0)) := fun j hj => by
  rw [lit_cell w t _ j, List.getElem?_map, List.getD_eq_getElem?_getD, List.getElem?_eq_getElem (by simpa [romD] using hj)]; rfl
set_option maxRecDepth 8000 in
set_option maxHeartbeats 4000000 in
theorem l15Roman_any (w : World) :
    Calls Tryz.prog 94 #[] w fun e w' => ∃ A c, e = .returned (.slice A 12 c) ∧ Own3 w' 72 w.heap.size A 12 c (romL.map mT) ∧ Below w.heap.size w w' := by
  go_enter Tryz.func94, Tryz.ntmps94
  go_wp2
  go_loopw [3, 4] (fun a t wr => ∃ (k cc : Nat) (A : Option Addr), t = .int .i64 (k : Int) ∧ k ≤ 12 ∧ a = .slice A k cc ∧ Hid (Own3 wr 72 (w.heap.size + 1 + 1) A k cc ((romK k).map mT)) ∧ Hid (∀ j, j < 12 → wr.cell? ⟨w.heap.size, j, none⟩ = some (.string (romN.getD j ⟨#[]⟩))) ∧ Hid (∀ j, j < 12 → wr.cell? ⟨w.heap.size + 1, j, none⟩ = some (.int .i64 (romD.getD j 0))) ∧ Hid (Below w.heap.size w wr) ∧ w.heap.size + 1 + 1 ≤ wr.heap.size) (fun _ t _ => 12 - (intOf t).toNat)
  case atStart =>
    refine ⟨0, 0, _, rfl, Nat.zero_le _, rfl, Lib.hid (own3_empty _ (by simp) (by simp)), Lib.hid (fun j hj => ?_), Lib.hid (fun j hj => ?_), Lib.hid (by (repeat (first | with_reducible exact Below.refl _ _ | with_reducible refine below_alloc ?_ _ | with_reducible refine below_drewN ?_ _ | with_reducible refine Below.drew ?_ | ((with_reducible refine below_set ?_ ?_ _); rotate_left; (focus (first | (simp; done) | (simp; omega) | omega))) | with_reducible refine below_call ?_ (by assumption)))), by simp⟩
    · exact (World.cell?_alloc_lt _ _ _ (by simp; try omega)).trans ((World.cell?_alloc_lt _ _ _ (by simp; try omega)).trans (romN_cell w _ j hj))
    · have h := romD_cell (w.alloc (.cells (romN.map Value.string).toArray 9)) 2 j hj
      simp only [World.size_alloc] at h
      exact (World.cell?_alloc_lt _ _ _ (by simp)).trans h
  case round =>
    obtain ⟨k, cc, A, rfl, hk, rfl, HO, HN, HD, HB, zr⟩ := hrel
    have i0 : (0 : Int) ≤ (k : Int) := by omega
    by_cases hlt : k < 12
    · have i1 : (k : Int) < 12 := by omega
      have hn := HN.out k hlt
      have hd := HD.out k hlt
      have HE := Lib.hid (show (romK (k + 1)).map mT = (romK k).map mT ++ [mT ⟨romN.getD k ⟨#[]⟩, romD.getD k 0, romD.getD k 0⟩] by rw [romK, List.map_append]; rfl)
      generalize romN.getD k ⟨#[]⟩ = S at *
      generalize romD.getD k 0 = D at *
      go_upto_region 7 with fail
      go_region_held3 (fun w' => w'.cell? ⟨w.heap.size, k, none⟩ = some (.string S) ∧ w'.cell? ⟨w.heap.size + 1, k, none⟩ = some (.int .i64 D))
        (first
          | (go_split_ands; (try dsimp only); refine ⟨?_, ?_⟩ <;> (refine cell_belowB' hb5 ?_ ?_ <;> first | assumption | omega | (simp; done) | (simp; omega)))
          | go_keep)
        ((refine step_app3 (by rfl) _ _ 24 72 (.agg #[.string ⟨#[]⟩, .int .i64 0, .int .i64 0]) 32 Tryz.underlying24 info_month rfl (by omega) (by rfl) _ (w.heap.size + 1 + 1) A k cc _ (by rfl) (Own3.call (Own3.call HO.out (alb' _ _)) (Below.drew (Below.refl _ _))) wr.heap.size (by rfl) (mT ⟨S, D, D⟩) (by simp [mT]) (by simp [mT]) (by simp [mT]) (by simp [mT, Value.oneCell']) (by omega) (by simp; omega) ?_; intro A5 c5 w5 ho5 hb5; have HO5 := Lib.hid ho5; clear ho5))
      have HB5 : Hid (Below (w.heap.size + 1 + 1) wr w5) := Lib.hid ((((alb' wr _).drew).mono zr).trans hb5)
      clear hb5 hn hd
      go_wp2
      go_roundw
      case rel => exact ⟨k + 1, c5, A5, by go_num, by omega, rfl, Lib.hid (by rw [HE.out]; exact HO5.out), Lib.hid (fun j hj => (HB5.out.cell (by simp; omega)).trans (HN.out j hj)), Lib.hid (fun j hj => (HB5.out.cell (by simp)).trans (HD.out j hj)), Lib.hid (HB.out.trans (HB5.out.mono (by omega))), Nat.le_trans zr HB5.out.size⟩
      case measure => simp [intOf]; omega
    · have hE : k = 12 := by omega
      subst hE
      rcases HO.out.ad with ⟨_, h0, _⟩ | ⟨gr, rfl, g1, g2, _⟩
      · omega
      have hst := World.ownsRow.stored HO.out 5 (.int .i64 29)
      have hro := World.ownsRow.frozenAt HO.out 5
      obtain ⟨v5, hv5⟩ : ∃ v, wr.cell? ⟨gr, 5, none⟩ = some v := ⟨.int .i64 28, by rw [World.ownsRow.cellAt HO.out 5 (by omega)]; rfl⟩
      have hfe : (flat ((romK 12).map mT)).set 5 (.int .i64 29) = flat (romL.map mT) := rfl
      rw [hfe] at hst
      have HS := Lib.hid hst
      clear hst hfe
      go_wp2
      go_ret
      exact ⟨_, cc, rfl, Own3.lows HS.out.1 (by omega), HB.out.setCell (by simp; omega) _⟩
end Go.Proofs.YtmbdedkelckedaaGreatDoor

/- The reference's calendars by their names are valid. No conditions but that the name is one of the four. -/
namespace Go.Proofs.YtmbdedkelckedaaGreatDoor
open Go.RowKit
set_option linter.unusedVariables false
set_option linter.unusedSimpArgs false
/-- a calendar in a block that may be written -/
structure CalBx (W : World) (b : Nat) (nm : ByteArray) (A A' : Option Addr) (n n' c c' : Nat) (we : Int) : Prop where
  cal : CalAt W b nm A A' n n' c c' we
  fr : ∀ o, W.frozen? ⟨b, o, none⟩ = false
theorem set4_heap {b q : Nat} {v0 v1 v2 v3 : Value} (W : World) (h : q ≠ b) : ((((W.setCell ⟨b, 0, none⟩ v0).setCell ⟨b, 1, none⟩ v1).setCell ⟨b, 2, none⟩ v2).setCell ⟨b, 3, none⟩ v3).heap[q]? = W.heap[q]? := by
  rw [Below.heap_setCell _ _ _ _ h, Below.heap_setCell _ _ _ _ h, Below.heap_setCell _ _ _ _ h, Below.heap_setCell _ _ _ _ h]
theorem below_set4 {B b : Nat} {a W : World} {v0 v1 v2 v3 : Value} (hb : Below B a W) (h : B ≤ b) : Below B a ((((W.setCell ⟨b, 0, none⟩ v0).setCell ⟨b, 1, none⟩ v1).setCell ⟨b, 2, none⟩ v2).setCell ⟨b, 3, none⟩ v3) :=
  (((hb.setCell h _).setCell h _).setCell h _).setCell h _
theorem only_set4 {a W : World} {g b : Nat} {v0 v1 v2 v3 : Value} (h : a.grownBy W (some g)) (hb : a.heap.size ≤ b) : a.grownBy ((((W.setCell ⟨b, 0, none⟩ v0).setCell ⟨b, 1, none⟩ v1).setCell ⟨b, 2, none⟩ v2).setCell ⟨b, 3, none⟩ v3) (some g) :=
  only_setCell (only_setCell (only_setCell (only_setCell h (.inr hb) _) (.inr hb) _) (.inr hb) _) (.inr hb) _
section
variable {W W' : World} {b B g lo hi n n' c c' m : Nat} {nm : ByteArray} {A A' L : Option Addr} {we : Int} {es : List T3} {v0 v1 v2 v3 : Value}
theorem calBx_new (w : World) (t : TypeId) (nm : ByteArray) (A A' : Option Addr) (n n' c c' : Nat) (we : Int) : CalBx (w.alloc (.cells #[.string nm, .slice A n c, .slice A' n' c', .int .i64 we] t)) w.heap.size nm A A' n n' c c' we :=
  ⟨cal_new w t nm A A' n n' c c' we, fun o => by simp⟩
theorem CalBx.lt (h : CalBx W b nm A A' n n' c c' we) : b < W.heap.size := h.cal.lt
theorem CalBx.keep (h : CalBx W b nm A A' n n' c c' we) (hs : W.heap.size ≤ W'.heap.size) (hk : W'.heap[b]? = W.heap[b]?) : CalBx W' b nm A A' n n' c c' we := by
  have hc : ∀ o, W'.cell? ⟨b, o, none⟩ = W.cell? ⟨b, o, none⟩ := fun o => World.cell?_of_block (w := W) hk
  have hf : ∀ o, W'.frozen? ⟨b, o, none⟩ = W.frozen? ⟨b, o, none⟩ := fun o => World.frozen?_of_block (w := W) hk
  exact ⟨⟨Nat.lt_of_lt_of_le h.cal.lt hs, (hc 0).trans h.cal.c0, (hc 1).trans h.cal.c1, (hc 2).trans h.cal.c2, (hc 3).trans h.cal.c3⟩, fun o => (hf o).trans (h.fr o)⟩
theorem CalBx.call (h : CalBx W b nm A A' n n' c c' we) (hb : Below W.heap.size W W') : CalBx W' b nm A A' n n' c c' we := h.keep hb.size (hb.block b h.lt)
theorem CalBx.belowB (h : CalBx W b nm A A' n n' c c' we) (hb : Below B W W') (hB : b < B) : CalBx W' b nm A A' n n' c c' we := h.keep hb.size (hb.block b hB)
theorem CalBx.only (h : CalBx W b nm A A' n n' c c' we) (hg : W.grownBy W' (some g)) (hne : b ≠ g) : CalBx W' b nm A A' n n' c c' we := h.keep hg.size (hg.block b h.lt (by intro e; exact hne (by injection e)))
theorem CalBx.far (h : CalBx W b nm A A' n n' c c' we) {p : Addr} (hp : b ≠ p.block) (u : Value) : CalBx (W.setCell p u) b nm A A' n n' c c' we := h.keep (by simp) (Below.heap_setCell W p u b hp)
theorem CalBx.set1 (h : CalBx W b nm A A' n n' c c' we) (L : Option Addr) (m d : Nat) : CalBx (W.setCell ⟨b, 1, none⟩ (.slice L m d)) b nm L A' m n' d c' we := by
  obtain ⟨⟨h0, h1, h2, h3, h4⟩, h5⟩ := h
  exact ⟨⟨by simpa using h0, by simp [go_sem, h1], by simp [go_sem, h2], by simp [go_sem, h3], by simp [go_sem, h4]⟩, fun o => by simp [go_sem, h5 o]⟩
theorem CalBx.set2 (h : CalBx W b nm A A' n n' c c' we) (L : Option Addr) (m d : Nat) : CalBx (W.setCell ⟨b, 2, none⟩ (.slice L m d)) b nm A L n m c d we := by
  obtain ⟨⟨h0, h1, h2, h3, h4⟩, h5⟩ := h
  exact ⟨⟨by simpa using h0, by simp [go_sem, h1], by simp [go_sem, h2], by simp [go_sem, h3], by simp [go_sem, h4]⟩, fun o => by simp [go_sem, h5 o]⟩
theorem TriIn.set4 (h : TriIn W lo hi A n es) (hb : b < lo) : TriIn ((((W.setCell ⟨b, 0, none⟩ v0).setCell ⟨b, 1, none⟩ v1).setCell ⟨b, 2, none⟩ v2).setCell ⟨b, 3, none⟩ v3) lo hi A n es :=
  h.keep fun p h1 h2 => World.cell?_of_block (w := W) (set4_heap W (by omega))
theorem good_store {ms : List Mth} {rs : List Rul} {lo1 lo2 : Nat} (h1 : TriIn W lo1 W.heap.size A n (ms.map mT)) (h2 : TriIn W lo2 W.heap.size A' n' (rs.map rT)) (hb1 : b < lo1) (hb2 : b < lo2) (hl : lo ≤ b) (hc : n ≤ c) (hc2 : c ≤ 9223372036854775807) (hv : vCal nm n n' ms rs we = true) :
    GoodCal lo ((((W.setCell ⟨b, 0, none⟩ v0).setCell ⟨b, 1, none⟩ v1).setCell ⟨b, 2, none⟩ v2).setCell ⟨b, 3, none⟩ v3) (.agg #[.string nm, .slice A n c, .slice A' n' c', .int .i64 we]) := by
  refine ⟨nm, A, A', n, n', c, c', ms, rs, we, rfl, ?_, ?_, hc, hc2, hv⟩
  · have := (h1.set4 (v0 := v0) (v1 := v1) (v2 := v2) (v3 := v3) hb1).low (lo' := lo) (by omega)
    simpa using this
  · have := (h2.set4 (v0 := v0) (v1 := v1) (v2 := v2) (v3 := v3) hb2).low (lo' := lo) (by omega)
    simpa using this
theorem triIn_nil : TriIn W lo hi none 0 [] := ⟨Tri.nil_, fun ad e => by cases e⟩
end
/-- the months m1 .. m12, written out -/
def eq12 (d : Int) : List Mth := [⟨⟨#[109, 49]⟩, d, d⟩, ⟨⟨#[109, 50]⟩, d, d⟩, ⟨⟨#[109, 51]⟩, d, d⟩, ⟨⟨#[109, 52]⟩, d, d⟩, ⟨⟨#[109, 53]⟩, d, d⟩, ⟨⟨#[109, 54]⟩, d, d⟩, ⟨⟨#[109, 55]⟩, d, d⟩, ⟨⟨#[109, 56]⟩, d, d⟩, ⟨⟨#[109, 57]⟩, d, d⟩, ⟨⟨#[109, 49, 48]⟩, d, d⟩, ⟨⟨#[109, 49, 49]⟩, d, d⟩, ⟨⟨#[109, 49, 50]⟩, d, d⟩]
theorem eqL12 (d : Int) : eqL d 12 = eq12 d := by
  have h1 : ∀ k, k < 10 → mName k = ⟨#[109, UInt8.ofNat (48 + k)]⟩ := fun k hk => by unfold mName; rw [Lib.decDigits_one hk]
  have h2 : ∀ k, 10 ≤ k → k < 100 → mName k = ⟨#[109, UInt8.ofNat (48 + k / 10), UInt8.ofNat (48 + k % 10)]⟩ := fun k hk hk2 => by unfold mName; rw [Lib.decDigits_two (by omega) hk2]
  simp only [eqL, List.nil_append, List.cons_append]
  rw [h1 (0 + 1) (by omega), h1 (1 + 1) (by omega), h1 (2 + 1) (by omega), h1 (3 + 1) (by omega), h1 (4 + 1) (by omega), h1 (5 + 1) (by omega), h1 (6 + 1) (by omega), h1 (7 + 1) (by omega), h1 (8 + 1) (by omega), h2 (9 + 1) (by omega) (by omega), h2 (10 + 1) (by omega) (by omega), h2 (11 + 1) (by omega) (by omega)]
  rfl
def egyM : List Mth := eq12 30 ++ [⟨⟨#[109, 49, 51]⟩, 5, 5⟩]
def fixM : List Mth := eq12 28 ++ [⟨⟨#[109, 49, 51]⟩, 29, 30⟩]
theorem egy_ok : vCal ⟨#[101, 103, 121, 112, 116, 105, 97, 110]⟩ 13 0 egyM [] 10 = true := by decide +kernel
theorem fix_ok : vCal ⟨#[102, 105, 120, 101, 100]⟩ 13 3 fixM gregL 7 = true := by decide +kernel
theorem greg_ok : vCal ⟨#[103, 114, 101, 103, 111, 114, 105, 97, 110]⟩ 12 3 romL gregL 7 = true := by decide +kernel
theorem jul_ok : vCal ⟨#[106, 117, 108, 105, 97, 110]⟩ 12 1 romL [⟨4, 0, true⟩] 7 = true := by decide +kernel
def calN : List ByteArray := [⟨#[101, 103, 121, 112, 116, 105, 97, 110]⟩, ⟨#[102, 105, 120, 101, 100]⟩, ⟨#[103, 114, 101, 103, 111, 114, 105, 97, 110]⟩, ⟨#[106, 117, 108, 105, 97, 110]⟩]
set_option maxHeartbeats 1000000 in
theorem CalendarNames_any (w : World) :
    Calls Tryz.prog 66 #[] w fun e w' => e = .returned (.slice (some ⟨w.heap.size, 0, none⟩) 4 4) ∧ Strs w' w'.heap.size (some ⟨w.heap.size, 0, none⟩) 4 calN ∧ Below w.heap.size w w' := by
  go_enter Tryz.func66, Tryz.ntmps66
  go_wp2
  go_ret
  refine ⟨rfl, ⟨rfl, w.heap.size, 0, rfl, by simp, fun j hj => ?_⟩, by (repeat (first | with_reducible exact Below.refl _ _ | with_reducible refine below_alloc ?_ _ | with_reducible refine below_drewN ?_ _ | with_reducible refine Below.drew ?_ | ((with_reducible refine below_set ?_ ?_ _); rotate_left; (focus (first | (simp; done) | (simp; omega) | omega))) | with_reducible refine below_call ?_ (by assumption)))⟩
  rw [Nat.zero_add]
  refine (lit_cell w _ (calN.map Value.string) j).trans ?_
  rw [List.getElem?_map, List.getD_eq_getElem?_getD, List.getElem?_eq_getElem (by simpa [calN] using hj)]; rfl
theorem alb0 (w : World) (o : Obj) : Below w.heap.size w (w.alloc o) := (Below.refl _ _).alloc (Nat.le_refl _) o
theorem egy_eq : (eqL 30 12).map mT ++ [mT ⟨⟨#[109, 49, 51]⟩, 5, 5⟩] = egyM.map mT := (congrArg (fun l : List Mth => l.map mT ++ [mT ⟨⟨#[109, 49, 51]⟩, 5, 5⟩]) (eqL12 30)).trans rfl
theorem fix_eq : (eqL 28 12).map mT ++ [mT ⟨⟨#[109, 49, 51]⟩, 29, 30⟩] = fixM.map mT := (congrArg (fun l : List Mth => l.map mT ++ [mT ⟨⟨#[109, 49, 51]⟩, 29, 30⟩]) (eqL12 28)).trans rfl
set_option maxRecDepth 8000 in
set_option maxHeartbeats 4000000 in
theorem CalendarNamed_egy (w : World) : Calls Tryz.prog 64 #[.string ⟨#[101, 103, 121, 112, 116, 105, 97, 110]⟩] w fun e w' => ∃ v, e = .returned (.tuple #[v, .int .i64 0]) ∧ GoodCal w.heap.size w' v ∧ Below w.heap.size w w' := by
  go_enter Tryz.func64, Tryz.ntmps64
  go_wp2_with (first | (go_at_call 92; refine (l15Equal_any 12 _ _ (by omega)).mono ?_; rintro e w1 ⟨A, cc, rfl, ho1, hb1⟩; have HO : Hid (Own3 w1 72 (w.heap.size + 1) A 12 cc _) := Lib.hid (by simpa using ho1); have HK := Lib.hid ((calBx_new w 27 ⟨#[]⟩ none none 0 0 0 0 0).call hb1); have HB : Hid (Below w.heap.size w w1) := Lib.hid (below_call (alb' w _) hb1); have z1 := HK.out.lt; clear ho1 hb1) | (at_builtin; refine wpList_app3 rfl _ _ 24 72 (.agg #[.string ⟨#[]⟩, .int .i64 0, .int .i64 0]) 32 Tryz.underlying24 info_month rfl (by omega) rfl _ (w.heap.size + 1) A 12 cc _ rfl (Own3.call HO.out (alb' _ _)) w1.heap.size rfl (mT ⟨⟨#[109, 49, 51]⟩, 5, 5⟩) (by simp [mT]) (by simp [mT]) (by simp [mT]) (by simp [mT, Value.oneCell']) (by omega) (by simp; omega) ?_; intro A5 c5 w5 ho5 hb5; have HO5 := Lib.hid ho5; have HK5 := Lib.hid ((HK.out.call (alb' _ _)).belowB hb5 (by omega)); have HB5 := Lib.hid ((HB.out.alloc HB.out.size _).trans (hb5.mono (by omega))); have z5 := hb5.size; obtain ⟨⟨-, p0, p1, p2, p3⟩, pf⟩ := HK5.out; have f0 := pf 0; have f1 := pf 1; have f2 := pf 2; have f3 := pf 3; clear ho5 hb5 pf) | fail)
  refine bodyPost_ret (v := .tuple #[.agg #[.string ⟨#[101, 103, 121, 112, 116, 105, 97, 110]⟩, .slice A5 13 c5, .slice none 0 0, .int .i64 10], .int .i64 0]) ?_ rfl ⟨_, rfl, good_store (b := w.heap.size) (ms := egyM) (rs := []) (by rw [← egy_eq]; exact HO5.out.triIn) triIn_nil (by omega) (by omega) (Nat.le_refl _) HO5.out.cap HO5.out.capm egy_ok, below_set4 HB5.out (Nat.le_refl _)⟩
  simp [results, Tryz.results64, go_sem, *]
set_option maxRecDepth 8000 in
set_option maxHeartbeats 4000000 in
theorem CalendarNamed_fix (w : World) : Calls Tryz.prog 64 #[.string ⟨#[102, 105, 120, 101, 100]⟩] w fun e w' => ∃ v, e = .returned (.tuple #[v, .int .i64 0]) ∧ GoodCal w.heap.size w' v ∧ Below w.heap.size w w' := by
  go_enter Tryz.func64, Tryz.ntmps64
  go_wp2_with (first | (go_at_call 92; refine (l15Equal_any 12 _ _ (by omega)).mono ?_; rintro e w1 ⟨A, cc, rfl, ho1, hb1⟩; have HO : Hid (Own3 w1 72 (w.heap.size + 1) A 12 cc _) := Lib.hid (by simpa using ho1); have HK := Lib.hid ((calBx_new w 27 ⟨#[]⟩ none none 0 0 0 0 0).call hb1); have HB : Hid (Below w.heap.size w w1) := Lib.hid (below_call (alb' w _) hb1); have z1 := HK.out.lt; clear ho1 hb1) | (at_builtin; refine wpList_app3 rfl _ _ 24 72 (.agg #[.string ⟨#[]⟩, .int .i64 0, .int .i64 0]) 32 Tryz.underlying24 info_month rfl (by omega) rfl _ (w.heap.size + 1) A 12 cc _ rfl (Own3.call HO.out (alb' _ _)) w1.heap.size rfl (mT ⟨⟨#[109, 49, 51]⟩, 29, 30⟩) (by simp [mT]) (by simp [mT]) (by simp [mT]) (by simp [mT, Value.oneCell']) (by omega) (by simp; omega) ?_; intro A5 c5 w5 ho5 hb5; have HO5 := Lib.hid ho5; have HK5 := Lib.hid ((HK.out.call (alb' _ _)).belowB hb5 (by omega)); have HB5 := Lib.hid ((HB.out.alloc HB.out.size _).trans (hb5.mono (by omega))); have z5 := hb5.size; obtain ⟨⟨-, p0, p1, p2, p3⟩, pf⟩ := HK5.out; have f0 := pf 0; have f1 := pf 1; have f2 := pf 2; have f3 := pf 3; clear ho5 hb5 pf) | (go_at_call 93; refine (l15Gregorian_any _).mono ?_; rintro e w6 ⟨A6, c6, rfl, ho6, hb6⟩; have HR6 := Lib.hid ho6; have HK6 := Lib.hid (HK5.out.call hb6); have HM6 := Lib.hid ((HO5.out.triIn.call hb6 (Nat.le_refl _)).more hb6.size); have HB6 := Lib.hid (below_call HB5.out hb6); have z6 := hb6.size; clear ho6 hb6 p0 p1 p2 p3 f0 f1 f2 f3; obtain ⟨⟨-, p0, p1, p2, p3⟩, pf⟩ := HK6.out; have f0 := pf 0; have f1 := pf 1; have f2 := pf 2; have f3 := pf 3; clear pf) | fail)
  refine bodyPost_ret (v := .tuple #[.agg #[.string ⟨#[102, 105, 120, 101, 100]⟩, .slice A5 13 c5, .slice A6 3 c6, .int .i64 7], .int .i64 0]) ?_ rfl ⟨_, rfl, good_store (b := w.heap.size) (ms := fixM) (rs := gregL) (by rw [← fix_eq]; exact HM6.out) HR6.out.triIn (by omega) (by simp at z5; omega) (Nat.le_refl _) HO5.out.cap HO5.out.capm fix_ok, below_set4 HB6.out (Nat.le_refl _)⟩
  simp [results, Tryz.results64, go_sem, *]
set_option maxRecDepth 8000 in
set_option maxHeartbeats 4000000 in
theorem CalendarNamed_greg (w : World) : Calls Tryz.prog 64 #[.string ⟨#[103, 114, 101, 103, 111, 114, 105, 97, 110]⟩] w fun e w' => ∃ v, e = .returned (.tuple #[v, .int .i64 0]) ∧ GoodCal w.heap.size w' v ∧ Below w.heap.size w w' := by
  go_enter Tryz.func64, Tryz.ntmps64
  go_wp2_with (first | (go_at_call 94; refine (l15Roman_any _).mono ?_; rintro e w5 ⟨A5, c5, rfl, ho1, hb1⟩; have HO5 : Hid (Own3 w5 72 (w.heap.size + 1) A5 12 c5 (romL.map mT)) := Lib.hid (by simpa using ho1); have HK5 := Lib.hid ((calBx_new w 27 ⟨#[]⟩ none none 0 0 0 0 0).call hb1); have HB5 : Hid (Below w.heap.size w w5) := Lib.hid (below_call (alb' w _) hb1); have z5 := HK5.out.lt; clear ho1 hb1; obtain ⟨⟨-, p0, p1, p2, p3⟩, pf⟩ := HK5.out; have f0 := pf 0; have f1 := pf 1; have f2 := pf 2; have f3 := pf 3; clear pf) | (go_at_call 93; refine (l15Gregorian_any _).mono ?_; rintro e w6 ⟨A6, c6, rfl, ho6, hb6⟩; have HR6 := Lib.hid ho6; have HK6 := Lib.hid (HK5.out.call hb6); have HM6 := Lib.hid ((HO5.out.triIn.call hb6 (Nat.le_refl _)).more hb6.size); have HB6 := Lib.hid (below_call HB5.out hb6); have z6 := hb6.size; clear ho6 hb6 p0 p1 p2 p3 f0 f1 f2 f3; obtain ⟨⟨-, p0, p1, p2, p3⟩, pf⟩ := HK6.out; have f0 := pf 0; have f1 := pf 1; have f2 := pf 2; have f3 := pf 3; clear pf) | fail)
  refine bodyPost_ret (v := .tuple #[.agg #[.string ⟨#[103, 114, 101, 103, 111, 114, 105, 97, 110]⟩, .slice A5 12 c5, .slice A6 3 c6, .int .i64 7], .int .i64 0]) ?_ rfl ⟨_, rfl, good_store (b := w.heap.size) (ms := romL) (rs := gregL) HM6.out HR6.out.triIn (by omega) (by omega) (Nat.le_refl _) HO5.out.cap HO5.out.capm greg_ok, below_set4 HB6.out (Nat.le_refl _)⟩
  simp [results, Tryz.results64, go_sem, *]
set_option maxRecDepth 8000 in
set_option maxHeartbeats 4000000 in
theorem CalendarNamed_jul (w : World) : Calls Tryz.prog 64 #[.string ⟨#[106, 117, 108, 105, 97, 110]⟩] w fun e w' => ∃ v, e = .returned (.tuple #[v, .int .i64 0]) ∧ GoodCal w.heap.size w' v ∧ Below w.heap.size w w' := by
  go_enter Tryz.func64, Tryz.ntmps64
  go_wp2_with (first | (go_at_call 94; refine (l15Roman_any _).mono ?_; rintro e w5 ⟨A5, c5, rfl, ho1, hb1⟩; have HO5 : Hid (Own3 w5 72 (w.heap.size + 1) A5 12 c5 (romL.map mT)) := Lib.hid (by simpa using ho1); have HK5 := Lib.hid ((calBx_new w 27 ⟨#[]⟩ none none 0 0 0 0 0).call hb1); have HB5 : Hid (Below w.heap.size w w5) := Lib.hid (below_call (alb' w _) hb1); have z5 := HK5.out.lt; clear ho1 hb1; obtain ⟨⟨-, p0, p1, p2, p3⟩, pf⟩ := HK5.out; have f0 := pf 0; have f1 := pf 1; have f2 := pf 2; have f3 := pf 3; clear pf) | fail)
  obtain ⟨W4, hW4⟩ : ∃ W, ((((w5.setCell ⟨w.heap.size, 0, none⟩ (.string ⟨#[106, 117, 108, 105, 97, 110]⟩)).setCell ⟨w.heap.size, 1, none⟩ (.slice A5 12 c5)).setCell ⟨w.heap.size, 2, none⟩ (.slice (some ⟨w5.heap.size, 0, none⟩) 1 1)).setCell ⟨w.heap.size, 3, none⟩ (.int .i64 7)) = W := ⟨_, rfl⟩
  rw [hW4]
  have hs : W4.heap.size = w5.heap.size := by rw [← hW4]; simp
  have HM4 : TriIn W4 (w.heap.size + 1) w5.heap.size A5 12 (romL.map mT) := by rw [← hW4]; exact HO5.out.triIn.set4 (by omega)
  have HB4 : Below w.heap.size w W4 := by rw [← hW4]; exact below_set4 HB5.out (Nat.le_refl _)
  have k0 : W4.cell? ⟨w.heap.size, 0, none⟩ = some (.string ⟨#[106, 117, 108, 105, 97, 110]⟩) := by rw [← hW4]; simp [go_sem, p0]
  have k1 : W4.cell? ⟨w.heap.size, 1, none⟩ = some (.slice A5 12 c5) := by rw [← hW4]; simp [go_sem, p1]
  have k2 : W4.cell? ⟨w.heap.size, 2, none⟩ = some (.slice (some ⟨w5.heap.size, 0, none⟩) 1 1) := by rw [← hW4]; simp [go_sem, p2]
  have k3 : W4.cell? ⟨w.heap.size, 3, none⟩ = some (.int .i64 7) := by rw [← hW4]; simp [go_sem, p3]
  clear hW4 p0 p1 p2 p3 f0 f1 f2 f3
  have z4 : w.heap.size < W4.heap.size := by omega
  have HR : Own3 (W4.alloc (.cells #[.int .i64 4, .int .i64 0, .bool true] 99)) 99 W4.heap.size (some ⟨W4.heap.size, 0, none⟩) 1 1 (List.map rT [⟨4, 0, true⟩]) := World.ownsRow_lit W4 #[.int .i64 4, .int .i64 0, .bool true] 1 (Nat.le_refl _) (by simp only [maxLen]; omega) (by simp)
  have hb6 := alb0 W4 (.cells #[.int .i64 4, .int .i64 0, .bool true] 99)
  have HR2 := HR.triIn
  rw [hs] at HR2
  have HM6 := ((HM4.call hb6 (by omega)).more (hi' := (W4.alloc (.cells #[.int .i64 4, .int .i64 0, .bool true] 99)).heap.size) (by simp; omega)).low (lo' := w.heap.size) (by omega)
  refine bodyPost_ret (v := .tuple #[.agg #[.string ⟨#[106, 117, 108, 105, 97, 110]⟩, .slice A5 12 c5, .slice (some ⟨w5.heap.size, 0, none⟩) 1 1, .int .i64 7], .int .i64 0]) ?_ rfl ⟨_, rfl, ⟨_, A5, _, 12, 1, c5, 1, romL, [⟨4, 0, true⟩], 7, rfl, HM6, HR2.low (by omega), HO5.out.cap, HO5.out.capm, jul_ok⟩, below_call HB4 hb6⟩
  simp [results, Tryz.results64, go_sem, k0, k1, k2, k3, z4]
theorem CalendarNamed_any (x : ByteArray) (hx : x ∈ calN) (w : World) : Calls Tryz.prog 64 #[.string x] w fun e w' => ∃ v, e = .returned (.tuple #[v, .int .i64 0]) ∧ GoodCal w.heap.size w' v ∧ Below w.heap.size w w' := by
  simp only [calN, List.mem_cons, List.not_mem_nil, or_false] at hx
  rcases hx with rfl | rfl | rfl | rfl
  · exact CalendarNamed_egy w
  · exact CalendarNamed_fix w
  · exact CalendarNamed_greg w
  · exact CalendarNamed_jul w
end Go.Proofs.YtmbdedkelckedaaGreatDoor
