/- Contracts of the program's and the reference's functions, several texts in one; what each says, and its conditions, stands at its head. -/
import Derived.Test.YtmbdedkelckedaaGreatDoorCore8
import Derived.Deep.RegionHeld3
/- The draw of a calendar gives a valid one. No conditions but that the bytes lie apart from the source. -/
namespace Go.Proofs.YtmbdedkelckedaaGreatDoor
open Go.RowKit
set_option linter.unusedVariables false
set_option linter.unusedSimpArgs false
def ownNm : ByteArray := ⟨#[111, 119, 110]⟩
/-- a draw of a valid calendar -/
def DrawnCal (w : World) (g : Nat) (A : Option Addr) (n c : Nat) (K : Int) (e : Ending) (w' : World) : Prop := ∃ v, GoodCal w.heap.size w' v ∧ e = .returned v ∧ Src w' g A n c K ∧ w.grownBy w' (some g)
/-- an own row in blocks from lo to hi -/
def OwnT (w : World) (t : TypeId) (lo hi : Nat) (A : Option Addr) (n c : Nat) (es : List T3) : Prop := Own3 w t lo A n c es ∧ ∀ ad, A = some ad → ad.block < hi
/-- three cells in a block that may be written -/
structure MBx (W : World) (b : Nat) (u v x : Value) : Prop where
  lt : b < W.heap.size
  c0 : W.cell? ⟨b, 0, none⟩ = some u
  c1 : W.cell? ⟨b, 1, none⟩ = some v
  c2 : W.cell? ⟨b, 2, none⟩ = some x
  fr : ∀ o, W.frozen? ⟨b, o, none⟩ = false
section
variable {W W' : World} {t : TypeId} {lo hi g b n c : Nat} {A : Option Addr} {es : List T3} {u v x y : Value}
theorem OwnT.of (h : Own3 W t lo A n c es) : OwnT W t lo W.heap.size A n c es := ⟨h, fun ad e => by
  rcases h.ad with ⟨h0, _, _⟩ | ⟨g, h0, _, hl, _⟩
  · rw [h0] at e; cases e
  · rw [h0] at e; cases e; exact hl⟩
theorem OwnT.keep (h : OwnT W t lo hi A n c es) (hk : ∀ q, lo ≤ q → q < hi → W'.heap[q]? = W.heap[q]?) : OwnT W' t lo hi A n c es := by
  refine ⟨⟨h.1.1, ?_⟩, h.2⟩
  rcases h.1.2 with h0 | ⟨g, cap, cur, e, hb, hh, hr⟩
  · exact .inl h0
  · have hg : g < hi := by injection e with e1; have := h.2 _ e1; exact this
    exact .inr ⟨g, cap, cur, e, hb, by rw [hk g hb hg]; exact hh, hr⟩
theorem MBx.keep (h : MBx W b u v x) (hs : W.heap.size ≤ W'.heap.size) (hk : W'.heap[b]? = W.heap[b]?) : MBx W' b u v x := by
  have hc : ∀ o, W'.cell? ⟨b, o, none⟩ = W.cell? ⟨b, o, none⟩ := fun o => World.cell?_of_block (w := W) hk
  have hf : ∀ o, W'.frozen? ⟨b, o, none⟩ = W.frozen? ⟨b, o, none⟩ := fun o => World.frozen?_of_block (w := W) hk
  exact ⟨Nat.lt_of_lt_of_le h.lt hs, (hc 0).trans h.c0, (hc 1).trans h.c1, (hc 2).trans h.c2, fun o => (hf o).trans (h.fr o)⟩
theorem MBx.only (h : MBx W b u v x) (hg : W.grownBy W' (some g)) (hne : b ≠ g) : MBx W' b u v x := h.keep hg.size (hg.block b h.lt (by intro e; exact hne (by injection e)))
theorem MBx.set1 (h : MBx W b u v x) (y : Value) (hy : y.oneCell' = true) : MBx (W.setCell ⟨b, 1, none⟩ y) b u y x := by
  obtain ⟨h0, h1, h2, h3, h4⟩ := h
  exact ⟨by simpa using h0, by simp [go_sem, h1], by simp [go_sem, h2], by simp [go_sem, h3], fun o => by simp [go_sem, h4 o]⟩
theorem MBx.set2 (h : MBx W b u v x) (y : Value) (hy : y.oneCell' = true) : MBx (W.setCell ⟨b, 2, none⟩ y) b u v y := by
  obtain ⟨h0, h1, h2, h3, h4⟩ := h
  exact ⟨by simpa using h0, by simp [go_sem, h1], by simp [go_sem, h2], by simp [go_sem, h3], fun o => by simp [go_sem, h4 o]⟩
theorem mbx_new (w : World) (t : TypeId) (u v x : Value) : MBx (w.alloc (.cells #[u, v, x] t)) w.heap.size u v x := ⟨by simp, by simp, by simp, by simp, fun o => by simp⟩
end
/-- the months so far: the source, the result's box, the calendar's box b, its months -/
structure DM (w wr : World) (g : Nat) (A : Option Addr) (n c : Nat) (K : Int) (b : Nat) (we : Int) (L : Option Addr) (m cc hi : Nat) (ms : List Mth) : Prop where
  src : Src wr g A n c K
  gb : w.grownBy wr (some g)
  r0 : CalBx wr w.heap.size ⟨#[]⟩ none none 0 0 0 0 0
  bx : CalBx wr b ownNm L none m 0 cc 0 we
  om : OwnT wr 72 (b + 1) hi L m cc (ms.map mT)
  lo : w.heap.size + 1 ≤ b
  bh : b < hi
  hh : hi ≤ wr.heap.size
section
variable {w wr w1 : World} {g n c b m cc hi : Nat} {A L : Option Addr} {K K1 we : Int} {ms : List Mth}
theorem DM.draw (h : DM w wr g A n c K b we L m cc hi ms) (hg : g < w.heap.size) (hs : Src w1 g A n c K1) (hq : wr.grownBy w1 (some g)) : DM w w1 g A n c K1 b we L m cc hi ms := by
  have h1 := h.lo
  have h2 := h.hh
  exact ⟨hs, h.gb.trans hq, h.r0.only hq (by omega), h.bx.only hq (by omega), h.om.keep (fun q h3 h4 => hq.block q (by omega) (by intro e; injection e with e; omega)), h1, h.bh, Nat.le_trans h2 hq.size⟩
theorem DM.call (h : DM w wr g A n c K b we L m cc hi ms) (hb : Below wr.heap.size wr w1) : DM w w1 g A n c K b we L m cc hi ms := by
  have h2 := h.hh
  exact ⟨h.src.call hb, only_below h.gb hb, h.r0.call hb, h.bx.call hb, h.om.keep (fun q h3 h4 => hb.block q (by omega)), h.lo, h.bh, Nat.le_trans h2 hb.size⟩
theorem DM.more (h : DM w wr g A n c K b we L m cc hi ms) (hK : K ≤ K1) : DM w wr g A n c K1 b we L m cc hi ms := ⟨h.src.more hK, h.gb, h.r0, h.bx, h.om, h.lo, h.bh, h.hh⟩
theorem DM.far (h : DM w wr g A n c K b we L m cc hi ms) (hg : g < w.heap.size) {p : Addr} (hp : hi ≤ p.block) (u : Value) : DM w (wr.setCell p u) g A n c K b we L m cc hi ms := by
  have h1 := h.lo
  have h2 := h.hh
  have h3 := h.bh
  have hw := h.gb.size
  exact ⟨Src.set h.src (by omega) _, only_setCell h.gb (.inr (by omega)) _, h.r0.far (by omega) _, h.bx.far (by omega) _, h.om.keep (fun q h4 h5 => Below.heap_setCell wr p u q (by omega)), h1, h3, by simpa using h2⟩
theorem DM.app (h : DM w wr g A n c K b we L m cc hi ms) (hg : g < w.heap.size) (o : Obj) (hb : Below (b + 1) (wr.alloc o) w1) {L' : Option Addr} {m' c' : Nat} {ms' : List Mth} (ho : Own3 w1 72 (b + 1) L' m' c' (ms'.map mT)) :
    DM w (w1.setCell ⟨b, 1, none⟩ (.slice L' m' c')) g A n c K b we L' m' c' w1.heap.size ms' := by
  have h1 := h.lo
  have h2 := h.hh
  have h3 := h.bh
  have hb2 : Below (b + 1) wr w1 := ((Below.refl _ _).alloc (by omega) o).trans hb
  have hz := hb2.size
  have ot := OwnT.of ho
  exact ⟨Src.set (h.src.belowB hb2 (by omega)) (by show b ≠ g; omega) _, only_setCell (only_belowB h.gb (hb2.mono (by omega))) (.inr (by show w.heap.size ≤ b; omega)) _, (h.r0.belowB hb2 (by omega)).far (by show w.heap.size ≠ b; omega) _, (h.bx.belowB hb2 (by omega)).set1 _ _ _,
    ot.keep (fun q h4 h5 => Below.heap_setCell w1 _ _ q (by show q ≠ b; omega)), h1, by omega, by simp⟩
end
/-- what is known of the drawn months -/
def PM (ms : List Mth) (j : Nat) : Prop := ms.length = j ∧ ∀ i, i < j → (ms.getD i m0).nm = mName (i + 1) ∧ (1 ≤ (ms.getD i m0).dy ∧ (ms.getD i m0).dy ≤ 40) ∧ 1 ≤ (ms.getD i m0).lp ∧ (ms.getD i m0).lp ≤ 40
theorem PM.snoc {ms : List Mth} {j : Nat} (h : PM ms j) {d l : Int} (h1 : 1 ≤ d ∧ d ≤ 40) (h2 : 1 ≤ l ∧ l ≤ 40) : PM (ms ++ [⟨mName (j + 1), d, l⟩]) (j + 1) := by
  refine ⟨by rw [List.length_append, h.1]; rfl, fun i hi => ?_⟩
  by_cases e : i = j
  · subst e
    have : (ms ++ ([⟨mName (i + 1), d, l⟩] : List Mth)).getD i m0 = (⟨mName (i + 1), d, l⟩ : Mth) := by
      rw [List.getD_eq_getElem?_getD, List.getElem?_append_right (by rw [h.1]; exact Nat.le_refl _), h.1, Nat.sub_self]; rfl
    rw [this]
    exact ⟨rfl, h1, h2⟩
  · have : (ms ++ ([⟨mName (j + 1), d, l⟩] : List Mth)).getD i m0 = ms.getD i m0 := by
      rw [List.getD_eq_getElem?_getD, List.getElem?_append_left (by rw [h.1]; omega), ← List.getD_eq_getElem?_getD]
    rw [this]
    exact h.2 i (by omega)
theorem mName_small {k : Nat} (h : k < 10) : mName k = ⟨#[109, UInt8.ofNat (48 + k)]⟩ := by unfold mName; rw [Lib.decDigits_one h]
theorem mName_ok : ∀ k, 1 ≤ k → k ≤ 6 → vName (mName k).data.toList = true := fun k h1 h2 => by
  rw [mName_small (by omega)]
  match k, h1, h2 with
  | 1, _, _ => decide
  | 2, _, _ => decide
  | 3, _, _ => decide
  | 4, _, _ => decide
  | 5, _, _ => decide
  | 6, _, _ => decide
theorem mName_inj {i j : Nat} (hi : i < 10) (hj : j < 10) (h : (mName i).data.toList = (mName j).data.toList) : i = j := by
  rw [mName_small hi, mName_small hj] at h
  simp at h
  have h2 := congrArg UInt8.toNat h
  simp at h2
  omega
theorem PM.months {ms : List Mth} {j : Nat} (h : PM ms j) (h1 : 1 ≤ j) (h2 : j ≤ 6) : vMonths ms j = true := by
  unfold vMonths
  rw [Bool.and_eq_true, List.all_eq_true]
  refine ⟨fun i hi => ?_, by unfold inB; simp; omega⟩
  have hij := List.mem_range.1 hi
  obtain ⟨e1, e2, e3⟩ := h.2 i hij
  unfold mAt mOk
  rw [Bool.and_eq_true, Bool.and_eq_true, Bool.and_eq_true]
  refine ⟨⟨⟨by rw [e1]; exact mName_ok (i + 1) (by omega) (by omega), inB_mk (by omega) (by omega)⟩, inB_mk (by omega) (by omega)⟩, ?_⟩
  rw [List.all_eq_true]
  intro k hk
  have hki := List.mem_range.1 hk
  obtain ⟨f1, -, -⟩ := h.2 k (by omega)
  unfold nmL
  rw [e1, f1]
  simp only [Bool.not_eq_true', beq_eq_false_iff_ne, ne_eq]
  intro e
  have := mName_inj (by omega) (by omega) e
  omega
theorem vRules_nil : vRules [] 0 = true := by decide
theorem own_ok {ms : List Mth} {m : Nat} {we : Int} (h : vMonths ms m = true) (h1 : 1 ≤ we) (h2 : we ≤ 12) : vCal ownNm m 0 ms [] we = true := by
  have e1 : vName ownNm.data.toList = true := by decide
  have e2 : inB we 1 12 = true := by unfold inB; simp; omega
  unfold vCal
  rw [vRules_nil, e1, h, e2]; rfl
/-- the rules so far -/
structure DR (w wr : World) (g : Nat) (A : Option Addr) (n c : Nat) (K : Int) (b : Nat) (we : Int) (L : Option Addr) (m cc lo2 : Nat) (ms : List Mth) (R : Option Addr) (q cq hi : Nat) (rs : List Rul) : Prop where
  src : Src wr g A n c K
  gb : w.grownBy wr (some g)
  r0 : CalBx wr w.heap.size ⟨#[]⟩ none none 0 0 0 0 0
  bx : CalBx wr b ownNm L R m q cc cq we
  om : TriIn wr (b + 1) lo2 L m (ms.map mT)
  or_ : OwnT wr 99 lo2 hi R q cq (rs.map rT)
  lo : w.heap.size + 1 ≤ b
  bl : b < lo2
  bh : lo2 ≤ hi
  hh : hi ≤ wr.heap.size
section
variable {w wr w1 : World} {g n c b m cc lo2 q cq hi : Nat} {A L R : Option Addr} {K K1 we : Int} {ms : List Mth} {rs : List Rul}
theorem DM.rules (h : DM w wr g A n c K b we L m cc hi ms) : DR w wr g A n c K b we L m cc wr.heap.size ms none 0 0 wr.heap.size [] :=
  ⟨h.src, h.gb, h.r0, h.bx, h.om.1.triIn, ⟨Own3.nil_, fun ad e => by cases e⟩, h.lo, by have := h.bh; have := h.hh; omega, Nat.le_refl _, Nat.le_refl _⟩
theorem DR.draw (h : DR w wr g A n c K b we L m cc lo2 ms R q cq hi rs) (hg : g < w.heap.size) (hs : Src w1 g A n c K1) (hq : wr.grownBy w1 (some g)) : DR w w1 g A n c K1 b we L m cc lo2 ms R q cq hi rs := by
  have h1 := h.lo
  have h2 := h.hh
  have h3 := h.bl
  have h4 := h.bh
  exact ⟨hs, h.gb.trans hq, h.r0.only hq (by omega), h.bx.only hq (by omega), h.om.only hq (by omega) (by omega), h.or_.keep (fun p h5 h6 => hq.block p (by omega) (by intro e; injection e with e; omega)), h1, h3, h4, Nat.le_trans h2 hq.size⟩
theorem DR.call (h : DR w wr g A n c K b we L m cc lo2 ms R q cq hi rs) (hb : Below wr.heap.size wr w1) : DR w w1 g A n c K b we L m cc lo2 ms R q cq hi rs := by
  have h2 := h.hh
  have h4 := h.bh
  exact ⟨h.src.call hb, only_below h.gb hb, h.r0.call hb, h.bx.call hb, h.om.call hb (by omega), h.or_.keep (fun p h5 h6 => hb.block p (by omega)), h.lo, h.bl, h4, Nat.le_trans h2 hb.size⟩
theorem DR.more (h : DR w wr g A n c K b we L m cc lo2 ms R q cq hi rs) (hK : K ≤ K1) : DR w wr g A n c K1 b we L m cc lo2 ms R q cq hi rs := ⟨h.src.more hK, h.gb, h.r0, h.bx, h.om, h.or_, h.lo, h.bl, h.bh, h.hh⟩
theorem DR.far (h : DR w wr g A n c K b we L m cc lo2 ms R q cq hi rs) (hg : g < w.heap.size) {p : Addr} (hp : hi ≤ p.block) (u : Value) : DR w (wr.setCell p u) g A n c K b we L m cc lo2 ms R q cq hi rs := by
  have h1 := h.lo
  have h2 := h.hh
  have h3 := h.bl
  have h4 := h.bh
  exact ⟨Src.set h.src (by omega) _, only_setCell h.gb (.inr (by omega)) _, h.r0.far (by omega) _, h.bx.far (by omega) _, h.om.keep (fun a h5 h6 => World.cell?_of_block (w := wr) (Below.heap_setCell wr p u a.block (by omega))), h.or_.keep (fun a h5 h6 => Below.heap_setCell wr p u a (by omega)), h1, h3, h4, by simpa using h2⟩
theorem DR.app (h : DR w wr g A n c K b we L m cc lo2 ms R q cq hi rs) (hg : g < w.heap.size) (o : Obj) (hb : Below lo2 (wr.alloc o) w1) {R' : Option Addr} {q' c' : Nat} {rs' : List Rul} (ho : Own3 w1 99 lo2 R' q' c' (rs'.map rT)) :
    DR w (w1.setCell ⟨b, 2, none⟩ (.slice R' q' c')) g A n c K b we L m cc lo2 ms R' q' c' w1.heap.size rs' := by
  have h1 := h.lo
  have h2 := h.hh
  have h3 := h.bl
  have h4 := h.bh
  have hb2 : Below lo2 wr w1 := ((Below.refl _ _).alloc (by omega) o).trans hb
  have hz := hb2.size
  have ot := OwnT.of ho
  exact ⟨Src.set (h.src.belowB hb2 (by omega)) (by show b ≠ g; omega) _, only_setCell (only_belowB h.gb (hb2.mono (by omega))) (.inr (by show w.heap.size ≤ b; omega)) _, (h.r0.belowB hb2 (by omega)).far (by show w.heap.size ≠ b; omega) _, (h.bx.belowB hb2 (by omega)).set2 _ _ _,
    h.om.keep (fun a h5 h6 => (World.cell?_of_block (w := w1) (Below.heap_setCell w1 ⟨b, 2, none⟩ _ a.block (by show a.block ≠ b; omega))).trans (hb2.cell h6)),
    ot.keep (fun a h5 h6 => Below.heap_setCell w1 _ _ a (by show a ≠ b; omega)), h1, h3, by omega, by simp⟩
end
end Go.Proofs.YtmbdedkelckedaaGreatDoor

/- The draw of a calendar, walked. No conditions but that the bytes lie apart from the source. -/
namespace Go.Proofs.YtmbdedkelckedaaGreatDoor
open Go.RowKit
set_option linter.unusedVariables false
set_option linter.unusedSimpArgs false
theorem dm_start {w W : World} {g n c : Nat} {A : Option Addr} {K we : Int} (t : TypeId) (hs : Src W g A n c K) (hg : w.grownBy W (some g)) (h0 : CalBx W w.heap.size ⟨#[]⟩ none none 0 0 0 0 0) :
    DM w (W.alloc (.cells #[.string ownNm, .slice none 0 0, .slice none 0 0, .int .i64 we] t)) g A n c K W.heap.size we none 0 0 (W.heap.size + 1) [] :=
  ⟨hs.alloc _, only_alloc hg _, h0.call (alb0 _ _), calBx_new _ _ _ _ _ _ _ _ _ _, ⟨Own3.nil_, fun ad e => by cases e⟩, h0.lt, by omega, by simp⟩
def rulN : List Int := [1, 2, 3, 4, 5, 8, 33, 100]
def QR (rs : List Rul) (q : Nat) : Prop := rs.length = q ∧ ∀ i, i < q → 1 ≤ (rs.getD i r0).ev
theorem QR.snoc {rs : List Rul} {q : Nat} (h : QR rs q) {r : Rul} (h1 : 1 ≤ r.ev) : QR (rs ++ [r]) (q + 1) := by
  refine ⟨by rw [List.length_append, h.1]; rfl, fun i hi => ?_⟩
  by_cases e : i = q
  · subst e
    have : (rs ++ [r]).getD i r0 = r := by rw [List.getD_eq_getElem?_getD, List.getElem?_append_right (by rw [h.1]; exact Nat.le_refl _), h.1, Nat.sub_self]; rfl
    rw [this]; exact h1
  · have : (rs ++ [r]).getD i r0 = rs.getD i r0 := by rw [List.getD_eq_getElem?_getD, List.getElem?_append_left (by rw [h.1]; omega), ← List.getD_eq_getElem?_getD]
    rw [this]; exact h.2 i (by omega)
theorem ints_lit (w : World) (t : TypeId) (zs : List Int) : Ints (w.alloc (.cells (zs.map (Value.int .i64)).toArray t)) (w.alloc (.cells (zs.map (Value.int .i64)).toArray t)).heap.size (some ⟨w.heap.size, 0, none⟩) zs.length zs := by
  refine ⟨rfl, fun _ => ⟨w.heap.size, 0, rfl, by simp, fun j hj => ?_⟩⟩
  rw [Nat.zero_add, lit_cell, List.getElem?_map, getD_of hj, List.getElem?_eq_getElem hj]; rfl
set_option maxRecDepth 8000 in
set_option maxHeartbeats 8000000 in
theorem l15Draw_any (A : Option Addr) (n c B g : Nat) (K : Int) (w : World) (h : Src w g A n c K) (hb : Byts w B A n) (hBg : B ≤ g) (hBw : B ≤ w.heap.size) (hn : n ≤ 4096) (hK : K ≤ 700000000) :
    Calls Tryz.prog 28 #[.pointer (some ⟨g, 0, none⟩)] w (DrawnCal w g A n c (K + 100)) := by
  have l0 := h.lt
  have HB0 := Lib.hid hb
  have HBY := Lib.hid (fun (W : World) (hg : w.grownBy W (some g)) => HB0.out.only hBw hg hBg)
  have S0 := Lib.hid (h.alloc (.cells #[.string ⟨#[]⟩, .slice none 0 0, .slice none 0 0, .int .i64 0] 27))
  have G0 := Lib.hid (only_alloc (World.grownBy.refl w (some g)) (.cells #[.string ⟨#[]⟩, .slice none 0 0, .slice none 0 0, .int .i64 0] 27))
  have X0 := Lib.hid (calBx_new w 27 ⟨#[]⟩ none none 0 0 0 0 0)
  clear h hb
  go_enter Tryz.func28, Tryz.ntmps28
  go_wp2_with fail
  go_at_call 58
  refine (one_any A n c B g K 2 _ S0.out (HBY.out _ G0.out) hBg hn (by omega) (by omega)).mono ?_
  rintro e w1 ⟨v, ⟨bb, rfl⟩, rfl, hs1, hq1⟩
  have S1 := Lib.hid hs1
  have G1 := Lib.hid (G0.out.trans hq1)
  have X1 := Lib.hid (X0.out.only hq1 (by omega))
  clear hs1 hq1 S0 G0 X0
  cases bb
  · -- a calendar of its own
    go_wp2_with fail
    go_at_call 59
    refine (pick_any A n c B g (K + 2) 12 _ S1.out (HBY.out _ G1.out) hBg hn (by omega) (by omega)).mono ?_
    rintro e w2 ⟨v, ⟨x, rfl, x0, x1⟩, rfl, hs2, hq2⟩
    have D2 := Lib.hid (dm_start (we := 1 + x) 27 hs2 (G1.out.trans hq2) (X1.out.only hq2 (by omega)))
    rw [if_neg (by omega)] at x1
    clear hs2 hq2 S1 G1 X1
    go_wp2_with fail
    go_at_call 59
    refine (pick_any A n c B g (K + 2 + 2) 6 _ D2.out.src (HBY.out _ D2.out.gb) hBg hn (by omega) (by omega)).mono ?_
    rintro e w3 ⟨v, ⟨y, rfl, y0, y1⟩, rfl, hs3, hq3⟩
    have D3 := Lib.hid (D2.out.draw l0 hs3 hq3)
    rw [if_neg (by omega)] at y1
    obtain ⟨y, rfl⟩ := Int.eq_ofNat_of_zero_le y0
    clear hs3 hq3 D2
    obtain ⟨b, hb⟩ : ∃ b, w2.heap.size = b := ⟨_, rfl⟩
    rw [hb] at D3
    go_wp2
    clear hb
    go_loopw [7, 8] (fun t _ wr => ∃ (m cc hi : Nat) (L : Option Addr) (ms : List Mth), t = .int .i64 ((m + 1 : Nat) : Int) ∧ m ≤ y + 1 ∧ Hid (PM ms m) ∧ Hid (DM w wr g A n c (K + 6 + 6 * (m : Int)) b (1 + x) L m cc hi ms)) (fun t _ _ => y + 2 - (intOf t).toNat)
    case atStart => exact ⟨0, 0, _, none, [], rfl, by omega, Lib.hid ⟨rfl, fun i hi => absurd hi (by omega)⟩, Lib.hid (D3.out.more (by omega))⟩
    case round =>
      obtain ⟨m, cc, hi, L, ms, rfl, hm, HPM, HD⟩ := hrel
      clear D3
      by_cases hlt : m ≤ y
      · have i1 : ((m + 1 : Nat) : Int) ≤ 1 + (y : Int) := by omega
        have f9 : ¬ (9223372036854775807 < 1 + (Lib.decDigits (m + 1)).length) := by
          have := dec_small (m + 1) (by omega); omega
        have HS0 := Lib.hid (show (⟨#[109]⟩ : ByteArray) ++ ⟨(Lib.decDigits (m + 1)).toArray⟩ = mName (m + 1) by
          rw [show (⟨#[109]⟩ : ByteArray) = ⟨([109] : List UInt8).toArray⟩ from rfl, str_app]; rfl)
        have CD := Lib.hid (fun W => l01Dec_any (m + 1) W (by omega))
        obtain ⟨S, hS⟩ : ∃ S, (⟨#[109]⟩ : ByteArray) ++ ⟨(Lib.decDigits (m + 1)).toArray⟩ = S := ⟨_, rfl⟩
        have HS := Lib.hid (hS.symm.trans HS0.out)
        go_wp2_with fail
        go_at_call 67
        refine (CD.out _).mono ?_
        rintro e w4 ⟨rfl, hb4⟩
        have D4 := Lib.hid (HD.out.call hb4)
        clear hb4
        go_wp2_with fail
        go_at_call 59
        refine (pick_any A n c B g (K + 6 + 6 * (m : Int)) 40 _ D4.out.src (HBY.out _ D4.out.gb) hBg hn (by omega) (by omega)).mono ?_
        rintro e w5 ⟨v, ⟨u, rfl, u0, u1⟩, rfl, hs5, hq5⟩
        have D5 := Lib.hid (D4.out.draw l0 hs5 hq5)
        rw [if_neg (by omega)] at u1
        clear hs5 hq5 D4
        go_wp2_with fail
        obtain ⟨w6, hw6⟩ : ∃ W, w5.alloc (.cells #[.string S, .int .i64 (1 + u), .int .i64 (1 + u)] 72) = W := ⟨_, rfl⟩
        have M6 := Lib.hid (hw6 ▸ mbx_new w5 72 (.string S) (.int .i64 (1 + u)) (.int .i64 (1 + u)))
        have D6 := Lib.hid (hw6 ▸ D5.out.call (alb0 w5 (.cells #[.string S, .int .i64 (1 + u), .int .i64 (1 + u)] 72)))
        have hbm := D5.out.hh
        have hbg := D5.out.gb.size
        obtain ⟨bm, hbm2⟩ : ∃ q, w5.heap.size = q := ⟨_, rfl⟩
        rw [hbm2] at M6 hbm hbg
        rw [hw6, hbm2]
        clear hw6 hbm2 D5
        go_at_call 58
        refine (one_any A n c B g (K + 6 + 6 * (m : Int) + 2) 3 _ D6.out.src (HBY.out _ D6.out.gb) hBg hn (by omega) (by omega)).mono ?_
        rintro e w7 ⟨v, ⟨bb, rfl⟩, rfl, hs7, hq7⟩
        have D7 := Lib.hid (D6.out.draw l0 hs7 hq7)
        have M7 := Lib.hid (M6.out.only hq7 (by omega))
        clear hs7 hq7 D6 M6
        cases bb
        · go_upto_region 13 with fail
          obtain ⟨wt, hwt⟩ : ∃ W, w7 = W := ⟨_, rfl⟩
          have M := M7
          have D := D7
          rw [hwt] at M D
          rw [hwt]
          clear M7 D7 hwt
          have zb := D.out.lo
          have zm0 := M.out.lt
          have zh := D.out.bh
          have zi := D.out.hh
          obtain ⟨⟨-, p0, p1, p2, p3⟩, pf⟩ := D.out.bx
          obtain ⟨-, k0, k1, k2, kf⟩ := M.out
          have f1 := pf 1
          clear pf kf
          go_wp2_with (first | (at_builtin; refine wpList_app3 rfl _ _ 24 72 (.agg #[.string ⟨#[]⟩, .int .i64 0, .int .i64 0]) 32 Tryz.underlying24 info_month rfl (by omega) rfl _ (b + 1) L m cc _ rfl (Own3.call D.out.om.1 (alb0 _ _)) wt.heap.size rfl (mT ⟨S, 1 + u, 1 + u⟩) (by simp [mT]) (by simp [mT]) (by simp [mT]) (by simp [mT, Value.oneCell']) (by omega) (by simp; omega) ?_; intro L8 c8 w8 ho8 hb8; have HO8 := Lib.hid ho8; have HB8 := Lib.hid hb8; have q1 : w8.cell? ⟨b, 1, none⟩ = some (.slice L m cc) := (hb8.cell (by simp)).trans ((World.cell?_alloc_lt _ _ _ (by show b < _; omega)).trans p1); have g1 : w8.frozen? ⟨b, 1, none⟩ = false := (hb8.frozen (by simp)).trans (((alb0 wt _).frozen (by show b < _; omega)).trans f1); clear ho8 hb8) | fail)
          have D9 := DM.app (ms' := ms ++ [⟨mName (m + 1), 1 + u, 1 + u⟩]) D.out l0 _ HB8.out (by rw [List.map_append, ← HS.out]; exact HO8.out)
          go_roundw
          case rel => exact ⟨m + 1, c8, _, L8, ms ++ [⟨mName (m + 1), 1 + u, 1 + u⟩], by go_num, by omega, Lib.hid (HPM.out.snoc ⟨by omega, by omega⟩ ⟨by omega, by omega⟩), Lib.hid (D9.more (by push_cast; omega))⟩
          case measure => simp [intOf]; omega
        · go_wp2_with fail
          go_at_call 59
          refine (pick_any A n c B g (K + 6 + 6 * (m : Int) + 2 + 2) 40 _ D7.out.src (HBY.out _ D7.out.gb) hBg hn (by omega) (by omega)).mono ?_
          rintro e w8 ⟨v, ⟨u2, rfl, v0, v1⟩, rfl, hs8, hq8⟩
          have D8 := Lib.hid (D7.out.draw l0 hs8 hq8)
          have M8 := Lib.hid (M7.out.only hq8 (by omega))
          rw [if_neg (by omega)] at v1
          have M := Lib.hid (M8.out.set2 (.int .i64 (1 + u2)) rfl)
          have D := Lib.hid (D8.out.far l0 (p := ⟨bm, 2, none⟩) hbm (.int .i64 (1 + u2)))
          obtain ⟨z8, k0, k1, k2, kf⟩ := M8.out
          have kf2 := kf 2
          clear hs8 hq8 D7 M7 kf D8 M8
          go_upto_region 13 with fail
          clear k0 k1 k2 kf2 z8
          obtain ⟨wt, hwt⟩ : ∃ W, w8.setCell ⟨bm, 2, none⟩ (.int .i64 (1 + u2)) = W := ⟨_, rfl⟩
          rw [hwt] at M D
          rw [hwt]
          clear hwt
          have zb := D.out.lo
          have zm0 := M.out.lt
          have zh := D.out.bh
          have zi := D.out.hh
          obtain ⟨⟨-, p0, p1, p2, p3⟩, pf⟩ := D.out.bx
          obtain ⟨-, k0, k1, k2, kf⟩ := M.out
          have f1 := pf 1
          clear pf kf
          go_wp2_with (first | (at_builtin; refine wpList_app3 rfl _ _ 24 72 (.agg #[.string ⟨#[]⟩, .int .i64 0, .int .i64 0]) 32 Tryz.underlying24 info_month rfl (by omega) rfl _ (b + 1) L m cc _ rfl (Own3.call D.out.om.1 (alb0 _ _)) wt.heap.size rfl (mT ⟨S, 1 + u, 1 + u2⟩) (by simp [mT]) (by simp [mT]) (by simp [mT]) (by simp [mT, Value.oneCell']) (by omega) (by simp; omega) ?_; intro L8 c8 w8 ho8 hb8; have HO8 := Lib.hid ho8; have HB8 := Lib.hid hb8; have q1 : w8.cell? ⟨b, 1, none⟩ = some (.slice L m cc) := (hb8.cell (by simp)).trans ((World.cell?_alloc_lt _ _ _ (by show b < _; omega)).trans p1); have g1 : w8.frozen? ⟨b, 1, none⟩ = false := (hb8.frozen (by simp)).trans (((alb0 wt _).frozen (by show b < _; omega)).trans f1); clear ho8 hb8) | fail)
          have D9 := DM.app (ms' := ms ++ [⟨mName (m + 1), 1 + u, 1 + u2⟩]) D.out l0 _ HB8.out (by rw [List.map_append, ← HS.out]; exact HO8.out)
          go_roundw
          case rel => exact ⟨m + 1, c8, _, L8, ms ++ [⟨mName (m + 1), 1 + u, 1 + u2⟩], by go_num, by omega, Lib.hid (HPM.out.snoc ⟨by omega, by omega⟩ ⟨by omega, by omega⟩), Lib.hid (D9.more (by push_cast; omega))⟩
          case measure => simp [intOf]; omega
      · have hE : m = y + 1 := by omega
        have i1 : ¬ (((m + 1 : Nat) : Int) ≤ 1 + (y : Int)) := by omega
        have hcap : m ≤ cc ∧ cc ≤ 9223372036854775807 := ⟨HD.out.om.1.cap, HD.out.om.1.capm⟩
        have HVM := Lib.hid (HPM.out.months (by omega) (by omega))
        have hm6 : m ≤ 6 := by omega
        go_wp2_with fail
        go_at_call 59
        refine (pick_any A n c B g (K + 6 + 6 * (m : Int)) 4 _ HD.out.src (HBY.out _ HD.out.gb) hBg hn (by omega) (by omega)).mono ?_
        rintro e w4 ⟨v, ⟨k0, rfl, z0, z1⟩, rfl, hs4, hq4⟩
        have D4 := Lib.hid ((HD.out.draw l0 hs4 hq4).rules.more (K1 := K + 50) (by omega))
        rw [if_neg (by omega)] at z1
        obtain ⟨k0, rfl⟩ := Int.eq_ofNat_of_zero_le z0
        obtain ⟨lo2, hlo2⟩ : ∃ q, w4.heap.size = q := ⟨_, rfl⟩
        rw [hlo2] at D4
        clear hs4 hq4 HD hlo2 hE i1 hlt hm
        go_wp2
        go_loopw [9, 10] (fun t _ wr => ∃ (k q cq hi : Nat) (R : Option Addr) (rs : List Rul), t = .int .i64 (k : Int) ∧ k + q = k0 ∧ Hid (QR rs q) ∧ Hid (DR w wr g A n c (K + 50 + 6 * (q : Int)) b (1 + x) L m cc lo2 ms R q cq hi rs)) (fun t _ _ => (intOf t).toNat)
        case atStart => exact ⟨k0, 0, 0, _, none, [], rfl, by omega, Lib.hid ⟨rfl, fun i hi => absurd hi (by omega)⟩, Lib.hid (by have := D4.out; simpa using this)⟩
        case round =>
          clear D4
          obtain ⟨k, q, cq, hi, R, rs, rfl, hkq, HQR, HD⟩ := hrel
          by_cases hk : 0 < k
          · have i2 : (0 : Int) < (k : Int) := by omega
            have D1 := Lib.hid (HD.out.call (alb0 wr (.cells (rulN.map (Value.int .i64)).toArray 2)))
            have hgw := HD.out.gb.size
            go_wp2_with fail
            go_at_call 68
            refine (among_any A _ n c B g 8 8 rulN (K + 50 + 6 * (q : Int)) _ D1.out.src (HBY.out _ D1.out.gb) hBg hn (by omega) (ints_lit wr 2 rulN) (by intro ad h; cases h; show wr.heap.size ≠ g; omega) (by omega) (by omega)).mono ?_
            rintro e w5 ⟨v, ⟨ev, rfl, hx5⟩, rfl, hs5, hq5⟩
            have hev : 1 ≤ ev ∧ ev ≤ 100 := by simp [rulN] at hx5; omega
            have D5 := Lib.hid (D1.out.draw l0 hs5 hq5)
            clear hs5 hq5 hx5 D1 HD hgw
            go_wp2_with fail
            obtain ⟨w6, hw6⟩ : ∃ W, w5.alloc (.cells #[.int .i64 ev, .int .i64 0, .bool false] 99) = W := ⟨_, rfl⟩
            have M6 := Lib.hid (hw6 ▸ mbx_new w5 99 (.int .i64 ev) (.int .i64 0) (.bool false))
            have D6 := Lib.hid (hw6 ▸ D5.out.call (alb0 w5 (.cells #[.int .i64 ev, .int .i64 0, .bool false] 99)))
            have hbm := D5.out.hh
            have hbg := D5.out.gb.size
            obtain ⟨bm, hbm2⟩ : ∃ q, w5.heap.size = q := ⟨_, rfl⟩
            rw [hbm2] at M6 hbm hbg
            rw [hw6, hbm2]
            clear hw6 hbm2 D5
            go_at_call 59
            refine (pick_any A n c B g (K + 50 + 6 * (q : Int) + 2) ev _ D6.out.src (HBY.out _ D6.out.gb) hBg hn (by omega) (by omega)).mono ?_
            rintro e w7 ⟨v, ⟨rst, rfl, y2, y3⟩, rfl, hs7, hq7⟩
            have D7 := Lib.hid (D6.out.draw l0 hs7 hq7)
            have M7 := Lib.hid (M6.out.only hq7 (by omega))
            have M8 := Lib.hid (M7.out.set1 (.int .i64 rst) rfl)
            have D8 := Lib.hid (D7.out.far l0 (p := ⟨bm, 1, none⟩) hbm (.int .i64 rst))
            obtain ⟨z8, k0', k1', k2', kf⟩ := M7.out
            have kf1 := kf 1
            clear hs7 hq7 D6 M6 kf D7 M7
            go_upto_region 19 with fail
            clear k0' k1' k2' kf1 z8
            obtain ⟨w8, hw8⟩ : ∃ W, w7.setCell ⟨bm, 1, none⟩ (.int .i64 rst) = W := ⟨_, rfl⟩
            rw [hw8] at M8 D8
            rw [hw8]
            clear hw8
            go_wp2_with fail
            go_at_call 58
            refine (one_any A n c B g (K + 50 + 6 * (q : Int) + 2 + 2) 3 _ D8.out.src (HBY.out _ D8.out.gb) hBg hn (by omega) (by omega)).mono ?_
            rintro e w9 ⟨v, ⟨b2, rfl⟩, rfl, hs9, hq9⟩
            have D9 := Lib.hid (D8.out.draw l0 hs9 hq9)
            have M9 := Lib.hid (M8.out.only hq9 (by omega))
            have M := Lib.hid (M9.out.set2 (.bool (!b2)) rfl)
            have D := Lib.hid (D9.out.far l0 (p := ⟨bm, 2, none⟩) hbm (.bool (!b2)))
            obtain ⟨z8, k0', k1', k2', kf⟩ := M9.out
            have kf2 := kf 2
            clear hs9 hq9 D8 M8 kf D9 M9
            go_upto_region 20 with fail
            clear k0' k1' k2' kf2 z8
            obtain ⟨wt, hwt⟩ : ∃ W, w9.setCell ⟨bm, 2, none⟩ (.bool (!b2)) = W := ⟨_, rfl⟩
            rw [hwt] at M D
            rw [hwt]
            clear hwt
            obtain ⟨nb, hnb⟩ : ∃ nb, (!b2) = nb := ⟨_, rfl⟩
            rw [hnb] at M
            clear hnb
            have zb := D.out.lo
            have zl := D.out.bl
            have zm0 := M.out.lt
            have zh := D.out.bh
            have zi := D.out.hh
            obtain ⟨⟨-, p0, p1, p2, p3⟩, pf⟩ := D.out.bx
            obtain ⟨-, j0, j1, j2, kf⟩ := M.out
            have f2 := pf 2
            clear pf kf
            go_wp2_with (first | (at_builtin; refine wpList_app3 rfl _ _ 25 99 (.agg #[.int .i64 0, .int .i64 0, .bool false]) 24 Tryz.underlying25 info_rule rfl (by omega) rfl _ lo2 R q cq _ rfl (Own3.call D.out.or_.1 (alb0 _ _)) wt.heap.size rfl (rT ⟨ev, rst, nb⟩) (by simp [rT]) (by simp [rT]) (by simp [rT]) (by simp [rT, Value.oneCell']) (by omega) (by simp; omega) ?_; intro L8 c8 w8 ho8 hb8; have HO8 := Lib.hid ho8; have HB8 := Lib.hid hb8; have q1 : w8.cell? ⟨b, 2, none⟩ = some (.slice R q cq) := (hb8.cell (by simp; omega)).trans ((World.cell?_alloc_lt _ _ _ (by show b < _; omega)).trans p2); have g1 : w8.frozen? ⟨b, 2, none⟩ = false := (hb8.frozen (by simp; omega)).trans (((alb0 wt _).frozen (by show b < _; omega)).trans f2); clear ho8 hb8) | fail)
            have DA := DR.app (rs' := rs ++ [⟨ev, rst, nb⟩]) D.out l0 _ HB8.out (by rw [List.map_append]; exact HO8.out)
            obtain ⟨k, rfl⟩ : ∃ i, k = i + 1 := ⟨k - 1, by omega⟩
            go_roundw
            case rel => exact ⟨k, q + 1, c8, _, L8, rs ++ [⟨ev, rst, nb⟩], by first | rfl | go_num | (simp; done) | (congr 1; omega), by omega, Lib.hid (HQR.out.snoc hev.1), Lib.hid (DA.more (by push_cast; omega))⟩
            case measure => first | (simp [intOf]; done) | (simp [intOf]; omega)
          · have hk0 : k = 0 := by omega
            subst hk0
            have i2 : ¬ ((0 : Int) < ((0 : Nat) : Int)) := by omega
            have zlo := HD.out.lo
            have zbl := HD.out.bl
            have zbh := HD.out.bh
            have zhh := HD.out.hh
            have CO := Lib.hid (l15Ok_any b ownNm L R m q cc cq wr.heap.size ms rs (1 + x) wr HD.out.bx.cal (Tri.more HD.out.om.1 (by omega)) (HD.out.or_.1.tri (Nat.le_refl _)) (Nat.le_refl _) (by omega) (by omega) (fun j hj => by have := HQR.out.2 j hj; omega))
            cases hv : vCal ownNm m q ms rs (1 + x)
            · rw [hv] at CO
              go_wp2_with fail
              go_at_call 69
              refine CO.out.mono ?_
              rintro e w5 ⟨rfl, hb5⟩
              have D5 := Lib.hid (HD.out.call hb5)
              obtain ⟨⟨-, p0, p1, p2, p3⟩, pf⟩ := D5.out.bx
              have f2 := pf 2
              have zw5 : b < w5.heap.size := D5.out.bx.lt
              clear pf hb5 HD
              go_upto_region 23 with fail
              have zh5 := D5.out.hh
              obtain ⟨R0, hR0⟩ : ∃ R0, some (⟨w5.heap.size, 0, none⟩ : Addr) = R0 := ⟨_, rfl⟩
              have hRl : ∀ ad, R0 = some ad → b + 1 ≤ ad.block := fun ad e => by rw [← hR0] at e; cases e; show b + 1 ≤ w5.heap.size; omega
              rw [hR0]
              have hW7 : Below (b + 1) (w5.setCell ⟨b, 2, none⟩ (.slice R0 0 0)) ((w5.setCell ⟨b, 2, none⟩ (.slice R0 0 0)).alloc (.cells #[] 99)) := (alb0 _ _).mono (by simp; omega)
              have hr7 := ((D5.out.r0.far (p := ⟨b, 2, none⟩) (by show w.heap.size ≠ b; omega) (.slice R0 0 0)).belowB hW7 (by omega))
              have hb7 := ((D5.out.bx.set2 R0 0 0).belowB hW7 (by omega))
              have hm7 : TriIn ((w5.setCell ⟨b, 2, none⟩ (.slice R0 0 0)).alloc (.cells #[] 99)) (b + 1) ((w5.setCell ⟨b, 2, none⟩ (.slice R0 0 0)).alloc (.cells #[] 99)).heap.size L m (ms.map mT) :=
                (((D5.out.om.keep (fun a h5 h6 => World.cell?_of_block (w := w5) (Below.heap_setCell w5 ⟨b, 2, none⟩ (.slice R0 0 0) a.block (by show a.block ≠ b; omega)))).call (alb0 _ (.cells #[] 99)) (by simp; omega)).more (by simp; omega))
              have hs7 : Src ((w5.setCell ⟨b, 2, none⟩ (.slice R0 0 0)).alloc (.cells #[] 99)) g A n c _ := (Src.set D5.out.src (p := ⟨b, 2, none⟩) (by show b ≠ g; omega) _).alloc _
              have hg7 : w.grownBy ((w5.setCell ⟨b, 2, none⟩ (.slice R0 0 0)).alloc (.cells #[] 99)) (some g) := only_alloc (only_setCell D5.out.gb (.inr (by show w.heap.size ≤ b; omega)) _) _
              obtain ⟨w7, hw7⟩ : ∃ W, (w5.setCell ⟨b, 2, none⟩ (.slice R0 0 0)).alloc (.cells #[] 99) = W := ⟨_, rfl⟩
              rw [hw7] at hr7 hb7 hm7 hs7 hg7 hW7
              rw [hw7]
              clear hw7 hR0 p0 p1 p2 p3 f2 hW7
              obtain ⟨⟨-, p0, p1, p2, p3⟩, -⟩ := hb7
              obtain ⟨⟨zr7, r0', r1', r2', r3'⟩, rf⟩ := hr7
              have f0 := rf 0
              have f1 := rf 1
              have f2 := rf 2
              have f3 := rf 3
              have HM7 := Lib.hid hm7
              have HS7 := Lib.hid hs7
              have HG7 := Lib.hid hg7
              have HRL := Lib.hid hRl
              clear rf hm7 hs7 hg7 hRl D5
              go_wp2
              refine bodyPost_ret (v := .agg #[.string ownNm, .slice L m cc, .slice R0 0 0, .int .i64 (1 + x)]) ?_ rfl ⟨_, good_store (b := w.heap.size) (ms := ms) (rs := []) (lo1 := b + 1) (lo2 := b + 1) HM7.out ⟨Tri.nil_, HRL.out⟩ (by omega) (by omega) (Nat.le_refl _) hcap.1 hcap.2 (own_ok HVM.out (by omega) (by omega)), rfl, (HS7.out.keep (set4_heap _ (by omega))).more (by omega), only_set4 HG7.out (Nat.le_refl _)⟩
              simp [results, Tryz.results28, go_sem, *]
            · rw [hv] at CO
              go_wp2_with fail
              go_at_call 69
              refine CO.out.mono ?_
              rintro e w5 ⟨rfl, hb5⟩
              have D5 := Lib.hid (HD.out.call hb5)
              obtain ⟨⟨-, p0, p1, p2, p3⟩, -⟩ := D5.out.bx
              obtain ⟨⟨-, r0', r1', r2', r3'⟩, rf⟩ := D5.out.r0
              have f0 := rf 0
              have f1 := rf 1
              have f2 := rf 2
              have f3 := rf 3
              have zw5 : b < w5.heap.size := D5.out.bx.lt
              have zh5 := D5.out.hh
              clear rf hb5 HD
              go_wp2
              have hm1 := (D5.out.om.more (hi' := w5.heap.size) (by omega))
              have hr1 := (D5.out.or_.1.triIn)
              refine bodyPost_ret (v := .agg #[.string ownNm, .slice L m cc, .slice R q cq, .int .i64 (1 + x)]) ?_ rfl ⟨_, good_store (b := w.heap.size) hm1 hr1 (by omega) (by omega) (Nat.le_refl _) hcap.1 hcap.2 hv, rfl, (D5.out.src.keep (set4_heap _ (by omega))).more (by omega), only_set4 D5.out.gb (Nat.le_refl _)⟩
              simp [results, Tryz.results28, go_sem, *]
  · -- a calendar by its name
    go_wp2_with fail
    go_at_call 66
    refine (CalendarNames_any _).mono ?_
    rintro e w2 ⟨rfl, hst, hb2⟩
    have S2 := Lib.hid (S1.out.call hb2)
    have G2 := Lib.hid (only_below G1.out hb2)
    have X2 := Lib.hid (X1.out.call hb2)
    have hgw := G1.out.size
    clear hb2 S1 G1 X1
    go_wp2_with fail
    go_at_call 65
    refine (text_any A _ n c B g 4 4 calN (K + 2) _ S2.out (HBY.out _ G2.out) hBg hn (by omega) hst (by intro ad h; cases h; show w1.heap.size ≠ g; omega) (by omega) (by omega)).mono ?_
    rintro e w3 ⟨v, ⟨x, rfl, hx⟩, rfl, hs3, hq3⟩
    have S3 := Lib.hid hs3
    have G3 := Lib.hid (G2.out.trans hq3)
    have X3 := Lib.hid (X2.out.only hq3 (by omega))
    clear hs3 hq3 S2 G2 X2 hst
    go_wp2_with fail
    go_at_call 64
    refine (CalendarNamed_any x hx _).mono ?_
    rintro e w4 ⟨v, rfl, ⟨nm, A1, A2, n1, n2, c1, c2, ms, rs, we, rfl, t1, t2, hc1, hc2, hv⟩, hb4⟩
    have S4 := Lib.hid (S3.out.call hb4)
    have G4 := Lib.hid (only_below G3.out hb4)
    have X4 := Lib.hid (X3.out.call hb4)
    have z3 := X3.out.lt
    have z4 := hb4.size
    have T1 := Lib.hid t1
    have T2 := Lib.hid t2
    clear hb4 S3 G3 X3 t1 t2 hx
    go_upto_region 3 with fail
    have S5 := Lib.hid (S4.out.alloc (.cells #[.string nm, .slice A1 n1 c1, .slice A2 n2 c2, .int .i64 we] 27))
    have G5 := Lib.hid (only_alloc G4.out (.cells #[.string nm, .slice A1 n1 c1, .slice A2 n2 c2, .int .i64 we] 27))
    have X5 := Lib.hid (X4.out.call (alb0 w4 (.cells #[.string nm, .slice A1 n1 c1, .slice A2 n2 c2, .int .i64 we] 27)))
    have Y5 := Lib.hid (calBx_new w4 27 nm A1 A2 n1 n2 c1 c2 we)
    have T5 := Lib.hid ((T1.out.call (alb0 w4 (.cells #[.string nm, .slice A1 n1 c1, .slice A2 n2 c2, .int .i64 we] 27)) (Nat.le_refl _)).more (hi' := (w4.alloc (.cells #[.string nm, .slice A1 n1 c1, .slice A2 n2 c2, .int .i64 we] 27)).heap.size) (by simp))
    have U5 := Lib.hid ((T2.out.call (alb0 w4 (.cells #[.string nm, .slice A1 n1 c1, .slice A2 n2 c2, .int .i64 we] 27)) (Nat.le_refl _)).more (hi' := (w4.alloc (.cells #[.string nm, .slice A1 n1 c1, .slice A2 n2 c2, .int .i64 we] 27)).heap.size) (by simp))
    obtain ⟨w5, hw5⟩ : ∃ W, w4.alloc (.cells #[.string nm, .slice A1 n1 c1, .slice A2 n2 c2, .int .i64 we] 27) = W := ⟨_, rfl⟩
    rw [hw5] at S5 G5 X5 Y5 T5 U5
    rw [hw5]
    clear hw5 S4 G4 X4 T1 T2
    obtain ⟨⟨-, p0, p1, p2, p3⟩, -⟩ := Y5.out
    obtain ⟨⟨zr7, r0', r1', r2', r3'⟩, rf⟩ := X5.out
    have f0 := rf 0
    have f1 := rf 1
    have f2 := rf 2
    have f3 := rf 3
    clear rf
    go_wp2
    refine bodyPost_ret (v := .agg #[.string nm, .slice A1 n1 c1, .slice A2 n2 c2, .int .i64 we]) ?_ rfl ⟨_, good_store (b := w.heap.size) T5.out U5.out (by omega) (by omega) (Nat.le_refl _) hc1 hc2 hv, rfl, (S5.out.keep (set4_heap _ (by omega))).more (by omega), only_set4 G5.out (Nat.le_refl _)⟩
    simp [results, Tryz.results28, go_sem, *]
end Go.Proofs.YtmbdedkelckedaaGreatDoor

/- The draws of a cam and of a day of a calendar. No conditions but that the calendar is valid and lies apart from the source. -/
namespace Go.Proofs.YtmbdedkelckedaaGreatDoor
open Go.RowKit
set_option linter.unusedVariables false
set_option linter.unusedSimpArgs false
/-- a calendar in block b, its rows in blocks from lo to hi -/
structure CalIn (W : World) (b lo hi : Nat) (nm : ByteArray) (A A' : Option Addr) (n n' c c' : Nat) (we : Int) (ms : List Mth) (rs : List Rul) : Prop where
  at_ : CalAt W b nm A A' n n' c c' we
  m : TriIn W lo hi A n (ms.map mT)
  r : TriIn W lo hi A' n' (rs.map rT)
  hh : hi ≤ W.heap.size
section
variable {W W' : World} {b lo hi g n n' c c' : Nat} {nm : ByteArray} {A A' : Option Addr} {we : Int} {ms : List Mth} {rs : List Rul}
theorem CalIn.lt (h : CalIn W b lo hi nm A A' n n' c c' we ms rs) : b < W.heap.size := h.at_.lt
theorem CalIn.call (h : CalIn W b lo hi nm A A' n n' c c' we ms rs) (hb : Below W.heap.size W W') : CalIn W' b lo hi nm A A' n n' c c' we ms rs :=
  ⟨h.at_.call hb, h.m.call hb h.hh, h.r.call hb h.hh, Nat.le_trans h.hh hb.size⟩
theorem CalIn.only (h : CalIn W b lo hi nm A A' n n' c c' we ms rs) (hg : W.grownBy W' (some g)) (hne : b ≠ g) (hl : g < lo) : CalIn W' b lo hi nm A A' n n' c c' we ms rs := by
  have h0 := hg.block b h.lt (by intro e; exact hne (by injection e))
  have hc : ∀ o, W'.cell? ⟨b, o, none⟩ = W.cell? ⟨b, o, none⟩ := fun o => World.cell?_of_block (w := W) h0
  exact ⟨⟨Nat.lt_of_lt_of_le h.at_.lt hg.size, (hc 0).trans h.at_.c0, (hc 1).trans h.at_.c1, (hc 2).trans h.at_.c2, (hc 3).trans h.at_.c3⟩, h.m.only hg hl h.hh, h.r.only hg hl h.hh, Nat.le_trans h.hh hg.size⟩
theorem CalIn.months (h : CalIn W b lo hi nm A A' n n' c c' we ms rs) : Months W W.heap.size A n ms := Tri.more h.m.1 h.hh
theorem CalIn.rules (h : CalIn W b lo hi nm A A' n n' c c' we ms rs) : Rules W W.heap.size A' n' rs := Tri.more h.r.1 h.hh
end
/-- a call gives a new cam that may be read -/
def NewCam (w : World) (l : Nat) (e : Ending) (w' : World) : Prop := ∃ L cc zs, e = .returned (.slice L l cc) ∧ Own w' w.heap.size L l cc zs ∧ (∀ x ∈ zs, 1 ≤ x ∧ x ≤ 60) ∧ Below w.heap.size w w'
set_option maxRecDepth 8000 in
set_option maxHeartbeats 4000000 in
theorem l17Of_any (b lo hi : Nat) (nm : ByteArray) (A A' : Option Addr) (n n' c c' : Nat) (ms : List Mth) (rs : List Rul) (we : Int) (f s : Nat) (w : World) (hC : CalIn w b lo hi nm A A' n n' c c' we ms rs) (hv : vCal nm n n' ms rs we = true) (hf : f ≤ 100000) (hs : s ≤ 260) (hsn : s * n ≤ 260) :
    Calls Tryz.prog 71 #[.pointer (some ⟨b, 0, none⟩), .int .i64 (f : Int), .int .i64 (s : Int)] w (NewCam w (s * n)) := by
  have HC := Lib.hid hC
  obtain ⟨-, -, hn6, -, ⟨n1, n2⟩, -, -⟩ := vCal_yes hv
  have HBD := Lib.hid (fun (y m : Int) (h1 : 1 ≤ m) (h2 : m ≤ (n : Int)) => dayK_bd (y := y) hv h1 h2)
  have CD := Lib.hid (fun (W : World) (hb : Below w.heap.size w W) (Y k : Nat) (hY : Y ≤ 1000000) (hk : k < n) => l15Days_k b A A' n n' c c' W.heap.size k ms rs (Y : Int) W (HC.out.call hb).lt (HC.out.call hb).at_.c1 (HC.out.call hb).at_.c2 (HC.out.call hb).months (HC.out.call hb).rules (Nat.le_refl _) (by omega) (by omega) (vCal_ev hv) (by omega) (by omega) hk)
  obtain ⟨F9, hF9⟩ : ∃ F9, f + s = F9 := ⟨_, rfl⟩
  have hF10 : (f : Int) + (s : Int) = (F9 : Int) := by omega
  clear hC hv
  go_enter Tryz.func71, Tryz.ntmps71
  go_wp2
  go_loopw [7, 8, 9] (fun a t _ wr => ∃ (j Y m cc : Nat) (L : Option Addr) (zs : List Int), t = .int .i64 (Y : Int) ∧ j ≤ s ∧ Hid (f + j = Y) ∧ a = .slice L m cc ∧ Hid (m = j * n) ∧ Hid (Own wr w.heap.size L m cc zs) ∧ Hid (∀ x ∈ zs, 1 ≤ x ∧ x ≤ 60) ∧ Hid (Below w.heap.size w wr)) (fun _ t _ _ => F9 - (intOf t).toNat)
  case atStart => exact ⟨0, f, 0, _, _, [], rfl, Nat.zero_le _, Lib.hid rfl, rfl, Lib.hid (by rw [Nat.zero_mul]), Lib.hid (own_empty rfl (Nat.le_refl _)), Lib.hid (by simp), Lib.hid (alb' _ _)⟩
  case round =>
    obtain ⟨j, Y, m, cc, L, zs, rfl, hj, hY, rfl, hm, HO, HZ, HB⟩ := hrel
    have hY2 := hY.out
    by_cases hlt : j < s
    · have i1 : (Y : Int) < (F9 : Int) := by omega
      have hjb : j * n ≤ 260 := Nat.le_trans (Nat.mul_le_mul_right n (Nat.le_of_lt hlt)) hsn
      have HJN := Lib.hid (show (j + 1) * n = j * n + n by rw [Nat.add_mul, Nat.one_mul])
      obtain ⟨X, hX⟩ : ∃ X, j * n = X := ⟨_, rfl⟩
      rw [hX] at HJN hjb hm
      clear hX
      go_wp2
      go_loopw [7, 9] (fun a t wr => ∃ (k m cc : Nat) (L : Option Addr) (zs : List Int), t = .int .i64 (k : Int) ∧ k ≤ n ∧ a = .slice L m cc ∧ Hid (m = X + k) ∧ Hid (Own wr w.heap.size L m cc zs) ∧ Hid (∀ x ∈ zs, 1 ≤ x ∧ x ≤ 60) ∧ Hid (Below w.heap.size w wr)) (fun _ t _ => n - (intOf t).toNat)
      case atStart => exact ⟨0, m, cc, L, zs, rfl, Nat.zero_le _, rfl, hm, HO, HZ, HB⟩
      case round =>
        clear HO HZ HB hm
        obtain ⟨k, m, cc, L, zs, rfl, hk, rfl, hm, HO, HZ, HB⟩ := hrel
        obtain ⟨zc, u0, u1, u2, u3⟩ := (HC.out.call HB.out).at_
        have zr := HB.out.size
        have k0 : (0 : Int) ≤ (k : Int) := by omega
        by_cases hlk : k < n
        · have i2 : (k : Int) < (n : Int) := by omega
          have hmb : m ≤ 10000000 := by have := hm.out; omega
          have cd := CD.out wr HB.out Y k (by omega) hlk
          have hbd := HBD.out (Y : Int) ((k : Int) + 1) (by omega) (by omega)
          generalize dayK ms rs n' (Y : Int) ((k : Int) + 1) = D at *
          have CD2 := Lib.hid cd
          clear cd
          go_wp2_with fail
          go_at_call 98
          refine CD2.out.mono ?_
          rintro e1 w4 ⟨rfl, q, rfl⟩
          have HO4 := Lib.hid (Own.drewN HO.out q)
          have HB4 := Lib.hid (below_drewN HB.out q)
          obtain ⟨w4, hw4⟩ : ∃ W, wr.drewN q = W := ⟨_, rfl⟩
          rw [hw4] at HO4 HB4 ⊢
          have z4 := HB4.out.size
          clear hw4 zc u0 u1 u2 u3
          go_wp2_with (first | (at_builtin; refine wpList_app rfl _ _ rfl _ w.heap.size _ _ _ _ rfl (Own.alloc HO4.out _) w4.heap.size rfl D (by simp) (by omega) (by simp; omega) ?_; intro L5 c5 w5 ho5 hb5; have HO5 := Lib.hid ho5; have HB5 := Lib.hid ((HB4.out.alloc HB4.out.size _).trans hb5); clear ho5 hb5) | fail)
          go_roundw
          case rel => exact ⟨k + 1, m + 1, c5, L5, _, by go_num, by omega, rfl, Lib.hid (by have := hm.out; omega), HO5, Lib.hid (fun x hx => by rcases List.mem_append.1 hx with h | h; exact HZ.out x h; (rw [List.mem_singleton] at h; subst h; exact hbd)), HB5⟩
          case measure => simp [intOf]; omega
        · have i2 : ¬ ((k : Int) < (n : Int)) := by omega
          have hE : k = n := by omega
          subst hE
          go_wp2
          go_roundw
          case rel => exact ⟨j + 1, Y + 1, m, cc, L, zs, by go_num, by omega, Lib.hid (by omega), rfl, Lib.hid (by rw [HJN.out]; exact hm.out), HO, HZ, HB⟩
          case measure => simp [intOf]; omega
    · have i1 : ¬ ((Y : Int) < (F9 : Int)) := by omega
      have hE : m = s * n := by rw [hm.out, show j = s by omega]
      subst hE
      obtain ⟨sn, hsn2⟩ : ∃ sn, s * n = sn := ⟨_, rfl⟩
      have HSN := Lib.hid hsn2
      rw [hsn2] at HO
      rw [hsn2]
      clear hsn2
      go_wp2
      go_ret
      exact ⟨L, cc, zs, by rw [HSN.out]; rfl, by rw [HSN.out]; exact HO.out, HZ.out, HB.out⟩
/-- a draw of a cam that belongs to a calendar of k months -/
def DrawnCamC (w : World) (g : Nat) (A : Option Addr) (n c : Nat) (K : Int) (k : Nat) (e : Ending) (w' : World) : Prop :=
  ∃ L l cc zs, e = .returned (.slice L l cc) ∧ Own w' w.heap.size L l cc zs ∧ vCam zs = true ∧ l % k = 0 ∧ l ≤ cc ∧ cc ≤ 9223372036854775807 ∧ Src w' g A n c K ∧ w.grownBy w' (some g)
theorem own_caps {w : World} {base n c : Nat} {A : Option Addr} {zs : List Int} (h : Own w base A n c zs) : n ≤ c ∧ c ≤ 9223372036854775807 := by
  rcases h.2 with ⟨e, h0⟩ | ⟨g, cap, cur, e, hb, hh, h1, h2, h3, h4⟩
  · injection e with e1 e2 e3; omega
  · injection e with e1 e2 e3
    subst e3
    exact ⟨h1, by unfold maxLen at h2; omega⟩
theorem vCam_of {zs : List Int} (h : ∀ x ∈ zs, 1 ≤ x ∧ x ≤ 60) (h1 : 1 ≤ zs.length) (h2 : zs.length ≤ 260) : vCam zs = true := by
  simp only [vCam, Bool.and_eq_true, List.all_eq_true]
  exact ⟨fun x hx => inB_mk (h x hx).1 (h x hx).2, inB_mk (by omega) (by omega)⟩
def camN : List Int := [0, 1, 4, 2000]
set_option maxRecDepth 8000 in
set_option maxHeartbeats 8000000 in
theorem l17Draw_any (A : Option Addr) (n c B g : Nat) (K : Int) (b lo hi : Nat) (nm : ByteArray) (A1 A2 : Option Addr) (n1 n2 c1 c2 : Nat) (ms : List Mth) (rs : List Rul) (we : Int) (w : World) (h : Src w g A n c K) (hb : Byts w B A n) (hBg : B ≤ g) (hBw : B ≤ w.heap.size) (hn : n ≤ 4096) (hK : K ≤ 700000000)
    (hC : CalIn w b lo hi nm A1 A2 n1 n2 c1 c2 we ms rs) (hbg : b ≠ g) (hgl : g < lo) (hv : vCal nm n1 n2 ms rs we = true) :
    Calls Tryz.prog 29 #[.pointer (some ⟨g, 0, none⟩), .pointer (some ⟨b, 0, none⟩)] w (DrawnCamC w g A n c (K + 20) n1) := by
  have l0 := h.lt
  have HB0 := Lib.hid hb
  have HBY := Lib.hid (fun (W : World) (hg : w.grownBy W (some g)) => HB0.out.only hBw hg hBg)
  have S0 := Lib.hid h
  have C0 := Lib.hid hC
  obtain ⟨-, -, -, -, ⟨m1, m2⟩, -, -⟩ := vCal_yes hv
  have HV := Lib.hid hv
  clear h hb hC hv
  go_enter Tryz.func29, Tryz.ntmps29
  go_wp2_with fail
  go_at_call 59
  refine (pick_any A n c B g K 4 _ S0.out (HBY.out _ (World.grownBy.refl _ _)) hBg hn (by omega) (by omega)).mono ?_
  rintro e w1 ⟨v, ⟨x, rfl, x0, x1⟩, rfl, hs1, hq1⟩
  have S1 := Lib.hid hs1
  have G1 := Lib.hid hq1
  have C1 := Lib.hid (C0.out.only hq1 hbg hgl)
  rw [if_neg (by omega)] at x1
  obtain ⟨x, rfl⟩ := Int.eq_ofNat_of_zero_le x0
  clear hs1 hq1 S0 C0
  go_wp2_with fail
  go_at_call 58
  refine (one_any A n c B g (K + 2) 4 _ S1.out (HBY.out _ G1.out) hBg hn (by omega) (by omega)).mono ?_
  rintro e w2 ⟨v, ⟨bb, rfl⟩, rfl, hs2, hq2⟩
  have S2 := Lib.hid hs2
  have G2 := Lib.hid (G1.out.trans hq2)
  have C2 := Lib.hid (C1.out.only hq2 hbg hgl)
  clear hs2 hq2 S1 G1 C1
  cases bb
  · obtain ⟨s, hs⟩ : ∃ s : Nat, (1 : Int) + (x : Int) = (s : Int) := ⟨1 + x, by push_cast; rfl⟩
    have s1 : 1 ≤ s := by omega
    have s2 : s ≤ 8 := by omega
    go_upto_region 4 with fail
    (try rw [hs])
    clear hs x1 x0
    have hsn : s * n1 ≤ 260 := Nat.le_trans (Nat.mul_le_mul s2 m2) (by decide)
    have hsn1 : 1 ≤ s * n1 := Nat.le_trans (by decide) (Nat.mul_le_mul s1 m1)
    have hmd : s * n1 % n1 = 0 := Nat.mul_mod_left s n1
    have hyr : inB (s : Int) 1 ((260 / n1 : Nat) : Int) = true := inB_mk (by omega) (by have := (div_le_bd (y := s) m1).mpr hsn; omega)
    have CY := Lib.hid (fun (W : World) (hC : CalAt W b nm A1 A2 n1 n2 c1 c2 we) => (show Calls Tryz.prog 70 #[.pointer (some ⟨b, 0, none⟩), .int .i64 (s : Int)] W fun e w' => e = .returned (.bool true) ∧ Below W.heap.size W w' by rw [← hyr]; exact l17Years_any b nm A1 A2 n1 n2 c1 c2 we (s : Int) W hC m1 (by omega)))
    go_wp2_with fail
    go_at_call 70
    refine (CY.out _ C2.out.at_).mono ?_
    rintro e w3 ⟨rfl, hb3⟩
    have S3 := Lib.hid ((S2.out.call hb3).alloc (.cells (camN.map (Value.int .i64)).toArray 2))
    have G3 := Lib.hid (only_alloc (only_below G2.out hb3) (.cells (camN.map (Value.int .i64)).toArray 2))
    have C3 := Lib.hid ((C2.out.call hb3).call (alb0 _ (.cells (camN.map (Value.int .i64)).toArray 2)))
    have z3 := G3.out.size
    (try simp at z3)
    have z3b := hb3.size
    have z2b := G2.out.size
    clear hb3 S2 G2 C2
    go_wp2_with fail
    go_at_call 68
    refine (among_any A _ n c B g 4 4 camN (K + 2 + 2) _ S3.out (HBY.out _ G3.out) hBg hn (by omega) (ints_lit w3 2 camN) (by intro ad h; cases h; show w3.heap.size ≠ g; omega) (by omega) (by omega)).mono ?_
    rintro e w4 ⟨v, ⟨f, rfl, hf⟩, rfl, hs4, hq4⟩
    have hf2 : 0 ≤ f ∧ f ≤ 100000 := by simp [camN] at hf; omega
    obtain ⟨f, rfl⟩ := Int.eq_ofNat_of_zero_le hf2.1
    have S4 := Lib.hid hs4
    have G4 := Lib.hid (G3.out.trans hq4)
    have C4 := Lib.hid (C3.out.only hq4 hbg hgl)
    clear hs4 hq4 S3 G3 C3 hf
    go_wp2_with fail
    go_at_call 71
    refine (l17Of_any b lo hi nm A1 A2 n1 n2 c1 c2 ms rs we f s _ C4.out HV.out (by omega) (by omega) hsn).mono ?_
    rintro e w5 ⟨L, cc, zs, rfl, ho5, hz5, hb5⟩
    have S5 := Lib.hid (S4.out.call hb5)
    have G5 := Lib.hid (only_below G4.out hb5)
    have O5 := Lib.hid ho5
    have hl5 := ho5.len
    have HZ := Lib.hid hz5
    have z4 := G4.out.size
    clear hb5 S4 G4 C4 ho5 hz5
    obtain ⟨l, hl⟩ : ∃ l, s * n1 = l := ⟨_, rfl⟩
    rw [hl] at hsn hsn1 hmd O5 hl5 ⊢
    go_wp2_with fail
    go_at_call 58
    refine (one_any A n c B g (K + 2 + 2 + 2) 3 _ S5.out (HBY.out _ G5.out) hBg hn (by omega) (by omega)).mono ?_
    rintro e w6 ⟨v, ⟨b2, rfl⟩, rfl, hs6, hq6⟩
    have S6 := Lib.hid hs6
    have G6 := Lib.hid (G5.out.trans hq6)
    have O6 := Lib.hid (O5.out.only hq6 (by omega))
    have cp := own_caps O5.out
    clear hs6 hq6 S5 G5 O5 hl
    cases b2
    · go_wp2
      go_ret
      exact ⟨L, l, cc, zs, rfl, O6.out.low (by omega), vCam_of HZ.out (by omega) (by omega), hmd, cp.1, cp.2, S6.out.more (by omega), G6.out⟩
    · go_wp2_with fail
      go_at_call 59
      refine (pick_any A n c B g (K + 2 + 2 + 2 + 2) (l : Int) _ S6.out (HBY.out _ G6.out) hBg hn (by omega) (by omega)).mono ?_
      rintro e w7 ⟨v, ⟨p, rfl, p0, p1⟩, rfl, hs7, hq7⟩
      have S7 := Lib.hid hs7
      have G7 := Lib.hid (G6.out.trans hq7)
      have O7 := Lib.hid (O6.out.only hq7 (by omega))
      have hpl : p < (l : Int) := by split at p1 <;> omega
      obtain ⟨p, rfl⟩ := Int.eq_ofNat_of_zero_le p0
      clear hs7 hq7 S6 G6 O6 p1
      go_wp2_with fail
      go_at_call 59
      refine (pick_any A n c B g (K + 2 + 2 + 2 + 2 + 2) 40 _ S7.out (HBY.out _ G7.out) hBg hn (by omega) (by omega)).mono ?_
      rintro e w8 ⟨v, ⟨u, rfl, u0, u1⟩, rfl, hs8, hq8⟩
      have S8 := Lib.hid hs8
      have G8 := Lib.hid (G7.out.trans hq8)
      have O8 := Lib.hid (O7.out.only hq8 (by omega))
      rw [if_neg (by omega)] at u1
      clear hs8 hq8 S7 G7 O7
      rcases O8.out.form with ⟨_, h0, _⟩ | ⟨gr, rfl, gr1, gr2⟩
      · omega
      have hst := (World.ownsRow.stored O8.out p (.int .i64 (1 + u)))
      rw [← List.map_set] at hst
      have hfr := World.ownsRow.frozenAt O8.out p
      obtain ⟨xv, hxv⟩ : ∃ v, w8.cell? ⟨gr, p, none⟩ = some v := ⟨.int .i64 (zs.getD p 0), by rw [World.ownsRow.cellAt O8.out p (by omega), List.getElem?_map, List.getElem?_eq_getElem (by omega), getD_of (by omega)]; rfl⟩
      have HS := Lib.hid hst
      have hzm : ∀ x ∈ zs.set p (1 + u), 1 ≤ x ∧ x ≤ 60 := fun x hx => by
        rcases List.mem_or_eq_of_mem_set hx with h | h
        · exact HZ.out x h
        · subst h; omega
      have HZM := Lib.hid hzm
      clear hst hzm
      go_wp2
      go_ret
      exact ⟨_, l, cc, zs.set p (1 + u), rfl, Own.low (b0 := w.heap.size) (show Own _ _ _ _ _ _ from HS.out.1) (by omega), vCam_of HZM.out (by simp; omega) (by simp; omega), hmd, cp.1, cp.2, (Src.set S8.out (p := ⟨gr, p, none⟩) (by show gr ≠ g; omega) _).more (by omega), only_setCell G8.out (.inr (by show w.heap.size ≤ gr; omega)) _⟩
  · obtain ⟨s, hs⟩ : ∃ s : Nat, (8 : Int) = (s : Int) := ⟨8, rfl⟩
    have s1 : 1 ≤ s := by omega
    have s2 : s ≤ 8 := by omega
    go_upto_region 4 with fail
    (try rw [hs])
    clear hs x1 x0
    have hsn : s * n1 ≤ 260 := Nat.le_trans (Nat.mul_le_mul s2 m2) (by decide)
    have hsn1 : 1 ≤ s * n1 := Nat.le_trans (by decide) (Nat.mul_le_mul s1 m1)
    have hmd : s * n1 % n1 = 0 := Nat.mul_mod_left s n1
    have hyr : inB (s : Int) 1 ((260 / n1 : Nat) : Int) = true := inB_mk (by omega) (by have := (div_le_bd (y := s) m1).mpr hsn; omega)
    have CY := Lib.hid (fun (W : World) (hC : CalAt W b nm A1 A2 n1 n2 c1 c2 we) => (show Calls Tryz.prog 70 #[.pointer (some ⟨b, 0, none⟩), .int .i64 (s : Int)] W fun e w' => e = .returned (.bool true) ∧ Below W.heap.size W w' by rw [← hyr]; exact l17Years_any b nm A1 A2 n1 n2 c1 c2 we (s : Int) W hC m1 (by omega)))
    go_wp2_with fail
    go_at_call 70
    refine (CY.out _ C2.out.at_).mono ?_
    rintro e w3 ⟨rfl, hb3⟩
    have S3 := Lib.hid ((S2.out.call hb3).alloc (.cells (camN.map (Value.int .i64)).toArray 2))
    have G3 := Lib.hid (only_alloc (only_below G2.out hb3) (.cells (camN.map (Value.int .i64)).toArray 2))
    have C3 := Lib.hid ((C2.out.call hb3).call (alb0 _ (.cells (camN.map (Value.int .i64)).toArray 2)))
    have z3 := G3.out.size
    (try simp at z3)
    have z3b := hb3.size
    have z2b := G2.out.size
    clear hb3 S2 G2 C2
    go_wp2_with fail
    go_at_call 68
    refine (among_any A _ n c B g 4 4 camN (K + 2 + 2) _ S3.out (HBY.out _ G3.out) hBg hn (by omega) (ints_lit w3 2 camN) (by intro ad h; cases h; show w3.heap.size ≠ g; omega) (by omega) (by omega)).mono ?_
    rintro e w4 ⟨v, ⟨f, rfl, hf⟩, rfl, hs4, hq4⟩
    have hf2 : 0 ≤ f ∧ f ≤ 100000 := by simp [camN] at hf; omega
    obtain ⟨f, rfl⟩ := Int.eq_ofNat_of_zero_le hf2.1
    have S4 := Lib.hid hs4
    have G4 := Lib.hid (G3.out.trans hq4)
    have C4 := Lib.hid (C3.out.only hq4 hbg hgl)
    clear hs4 hq4 S3 G3 C3 hf
    go_wp2_with fail
    go_at_call 71
    refine (l17Of_any b lo hi nm A1 A2 n1 n2 c1 c2 ms rs we f s _ C4.out HV.out (by omega) (by omega) hsn).mono ?_
    rintro e w5 ⟨L, cc, zs, rfl, ho5, hz5, hb5⟩
    have S5 := Lib.hid (S4.out.call hb5)
    have G5 := Lib.hid (only_below G4.out hb5)
    have O5 := Lib.hid ho5
    have hl5 := ho5.len
    have HZ := Lib.hid hz5
    have z4 := G4.out.size
    clear hb5 S4 G4 C4 ho5 hz5
    obtain ⟨l, hl⟩ : ∃ l, s * n1 = l := ⟨_, rfl⟩
    rw [hl] at hsn hsn1 hmd O5 hl5 ⊢
    go_wp2_with fail
    go_at_call 58
    refine (one_any A n c B g (K + 2 + 2 + 2) 3 _ S5.out (HBY.out _ G5.out) hBg hn (by omega) (by omega)).mono ?_
    rintro e w6 ⟨v, ⟨b2, rfl⟩, rfl, hs6, hq6⟩
    have S6 := Lib.hid hs6
    have G6 := Lib.hid (G5.out.trans hq6)
    have O6 := Lib.hid (O5.out.only hq6 (by omega))
    have cp := own_caps O5.out
    clear hs6 hq6 S5 G5 O5 hl
    cases b2
    · go_wp2
      go_ret
      exact ⟨L, l, cc, zs, rfl, O6.out.low (by omega), vCam_of HZ.out (by omega) (by omega), hmd, cp.1, cp.2, S6.out.more (by omega), G6.out⟩
    · go_wp2_with fail
      go_at_call 59
      refine (pick_any A n c B g (K + 2 + 2 + 2 + 2) (l : Int) _ S6.out (HBY.out _ G6.out) hBg hn (by omega) (by omega)).mono ?_
      rintro e w7 ⟨v, ⟨p, rfl, p0, p1⟩, rfl, hs7, hq7⟩
      have S7 := Lib.hid hs7
      have G7 := Lib.hid (G6.out.trans hq7)
      have O7 := Lib.hid (O6.out.only hq7 (by omega))
      have hpl : p < (l : Int) := by split at p1 <;> omega
      obtain ⟨p, rfl⟩ := Int.eq_ofNat_of_zero_le p0
      clear hs7 hq7 S6 G6 O6 p1
      go_wp2_with fail
      go_at_call 59
      refine (pick_any A n c B g (K + 2 + 2 + 2 + 2 + 2) 40 _ S7.out (HBY.out _ G7.out) hBg hn (by omega) (by omega)).mono ?_
      rintro e w8 ⟨v, ⟨u, rfl, u0, u1⟩, rfl, hs8, hq8⟩
      have S8 := Lib.hid hs8
      have G8 := Lib.hid (G7.out.trans hq8)
      have O8 := Lib.hid (O7.out.only hq8 (by omega))
      rw [if_neg (by omega)] at u1
      clear hs8 hq8 S7 G7 O7
      rcases O8.out.form with ⟨_, h0, _⟩ | ⟨gr, rfl, gr1, gr2⟩
      · omega
      have hst := (World.ownsRow.stored O8.out p (.int .i64 (1 + u)))
      rw [← List.map_set] at hst
      have hfr := World.ownsRow.frozenAt O8.out p
      obtain ⟨xv, hxv⟩ : ∃ v, w8.cell? ⟨gr, p, none⟩ = some v := ⟨.int .i64 (zs.getD p 0), by rw [World.ownsRow.cellAt O8.out p (by omega), List.getElem?_map, List.getElem?_eq_getElem (by omega), getD_of (by omega)]; rfl⟩
      have HS := Lib.hid hst
      have hzm : ∀ x ∈ zs.set p (1 + u), 1 ≤ x ∧ x ≤ 60 := fun x hx => by
        rcases List.mem_or_eq_of_mem_set hx with h | h
        · exact HZ.out x h
        · subst h; omega
      have HZM := Lib.hid hzm
      clear hst hzm
      go_wp2
      go_ret
      exact ⟨_, l, cc, zs.set p (1 + u), rfl, Own.low (b0 := w.heap.size) (show Own _ _ _ _ _ _ from HS.out.1) (by omega), vCam_of HZM.out (by simp; omega) (by simp; omega), hmd, cp.1, cp.2, (Src.set S8.out (p := ⟨gr, p, none⟩) (by show gr ≠ g; omega) _).more (by omega), only_setCell G8.out (.inr (by show w.heap.size ≤ gr; omega)) _⟩
end Go.Proofs.YtmbdedkelckedaaGreatDoor

/- The draw of a day of a calendar. No conditions but that the calendar is valid and lies apart from the source. -/
namespace Go.Proofs.YtmbdedkelckedaaGreatDoor
open Go.RowKit
set_option linter.unusedVariables false
set_option linter.unusedSimpArgs false
theorem set3_heap {b q : Nat} {v0 v1 v2 : Value} (W : World) (h : q ≠ b) : (((W.setCell ⟨b, 0, none⟩ v0).setCell ⟨b, 1, none⟩ v1).setCell ⟨b, 2, none⟩ v2).heap[q]? = W.heap[q]? := by
  rw [Below.heap_setCell _ _ _ _ h, Below.heap_setCell _ _ _ _ h, Below.heap_setCell _ _ _ _ h]
theorem only_set3 {a W : World} {g b : Nat} {v0 v1 v2 : Value} (h : a.grownBy W (some g)) (hb : a.heap.size ≤ b) : a.grownBy (((W.setCell ⟨b, 0, none⟩ v0).setCell ⟨b, 1, none⟩ v1).setCell ⟨b, 2, none⟩ v2) (some g) :=
  only_setCell (only_setCell (only_setCell h (.inr hb) _) (.inr hb) _) (.inr hb) _
theorem MBx.call {W W' : World} {b : Nat} {u v x : Value} (h : MBx W b u v x) (hb : Below W.heap.size W W') : MBx W' b u v x := h.keep hb.size (hb.block b h.lt)
theorem MBx.far {W : World} {b : Nat} {u v x : Value} (h : MBx W b u v x) {p : Addr} (hp : b ≠ p.block) (y : Value) : MBx (W.setCell p y) b u v x := h.keep (by simp) (Below.heap_setCell W p y b hp)
theorem CalIn.far {W : World} {b lo hi n n' c c' : Nat} {nm : ByteArray} {A A' : Option Addr} {we : Int} {ms : List Mth} {rs : List Rul} (h : CalIn W b lo hi nm A A' n n' c c' we ms rs) {p : Addr} (hb : b ≠ p.block) (hp : p.block < lo ∨ hi ≤ p.block) (u : Value) : CalIn (W.setCell p u) b lo hi nm A A' n n' c c' we ms rs := by
  have h0 := Below.heap_setCell W p u b hb
  have hc : ∀ o, (W.setCell p u).cell? ⟨b, o, none⟩ = W.cell? ⟨b, o, none⟩ := fun o => World.cell?_of_block (w := W) h0
  exact ⟨⟨by simpa using h.at_.lt, (hc 0).trans h.at_.c0, (hc 1).trans h.at_.c1, (hc 2).trans h.at_.c2, (hc 3).trans h.at_.c3⟩, h.m.keep (fun a h1 h2 => World.cell?_of_block (w := W) (Below.heap_setCell W p u a.block (by omega))), h.r.keep (fun a h1 h2 => World.cell?_of_block (w := W) (Below.heap_setCell W p u a.block (by omega))), by simpa using h.hh⟩
def dayN : List Int := [0, 1900, 2000, 2023, 2024, 2100, 9999, 4, 33]
end Go.Proofs.YtmbdedkelckedaaGreatDoor

/- A calendar and a cam that belongs to it, drawn from bytes. No conditions but that there are at most 4096 bytes. -/
namespace Go.Proofs.YtmbdedkelckedaaGreatDoor
open Go.RowKit
set_option linter.unusedVariables false
set_option linter.unusedSimpArgs false
/-- a calendar and a cam of it, both new -/
def GoodCC (lo : Nat) (W : World) (e : Ending) : Prop :=
  ∃ nm A1 A2 n1 n2 c1 c2 ms rs we L l cc zs, e = .returned (.tuple #[.agg #[.string nm, .slice A1 n1 c1, .slice A2 n2 c2, .int .i64 we], .slice L l cc]) ∧ Months W W.heap.size A1 n1 ms ∧ Rules W W.heap.size A2 n2 rs ∧ n1 ≤ c1 ∧ c1 ≤ 9223372036854775807 ∧ vCal nm n1 n2 ms rs we = true ∧
    Ints W W.heap.size L l zs ∧ vCam zs = true ∧ l % n1 = 0 ∧ l ≤ cc ∧ cc ≤ 9223372036854775807
theorem set4_keep {b : Nat} {v0 v1 v2 v3 : Value} (W : World) {p : Addr} (h : p.block ≠ b) : ((((W.setCell ⟨b, 0, none⟩ v0).setCell ⟨b, 1, none⟩ v1).setCell ⟨b, 2, none⟩ v2).setCell ⟨b, 3, none⟩ v3).cell? p = W.cell? p := World.cell?_of_block (w := W) (set4_heap W h)
theorem Ints.ne {W W' : World} {B B' n q : Nat} {A : Option Addr} {zs : List Int} (h : Ints W B A n zs) (hl : ∀ ad, A = some ad → ad.block ≠ q) (hk : ∀ p : Addr, p.block ≠ q → W'.cell? p = W.cell? p) (hB : B ≤ B') : Ints W' B' A n zs :=
  ⟨h.1, fun hn => by
    obtain ⟨b, off, e, hb, hc⟩ := h.2 hn
    exact ⟨b, off, e, by omega, fun j hj => (hk ⟨b, off + j, none⟩ (hl ⟨b, off, none⟩ e)).trans (hc j hj)⟩⟩
set_option maxRecDepth 8000 in
set_option maxHeartbeats 8000000 in
theorem A2Cam_any (A : Option Addr) (n c : Nat) (w : World) (hb : Byts w w.heap.size A n) (hn : n ≤ 4096) :
    Calls Tryz.prog 6 #[.slice A n c] w fun e w' => GoodCC w.heap.size w' e ∧ Below w.heap.size w w' := by
  obtain ⟨W0, hW0⟩ : ∃ W, w.alloc (.cells #[.string ⟨#[]⟩, .slice none 0 0, .slice none 0 0, .int .i64 0] 27) = W := ⟨_, rfl⟩
  have X0 := Lib.hid (hW0 ▸ calBx_new w 27 ⟨#[]⟩ none none 0 0 0 0 0)
  have B0 := Lib.hid (hW0 ▸ alb' w (.cells #[.string ⟨#[]⟩, .slice none 0 0, .slice none 0 0, .int .i64 0] 27))
  have hz0 : W0.heap.size = w.heap.size + 1 := by rw [← hW0]; simp
  have HBY := Lib.hid (fun (W : World) (hq : Below w.heap.size w W) => hb.below hq)
  clear hb
  go_enter Tryz.func6, Tryz.ntmps6
  go_wp2_with fail
  (try rw [hW0])
  clear hW0
  go_at_call 27
  refine (l00From_any A n c _).mono ?_
  rintro e w1 ⟨rfl, hs1, hb1⟩
  have S1 := Lib.hid hs1
  have X1 := Lib.hid (X0.out.call hb1)
  have B1 := Lib.hid (below_call B0.out hb1)
  have z1 := hs1.lt
  obtain ⟨g, hg⟩ : ∃ g, W0.heap.size = g := ⟨_, rfl⟩
  rw [hg] at S1 z1 hz0
  clear hs1 hb1 X0 B0
  go_wp2_with fail
  (try rw [hg])
  (try rw [← hz0])
  have hgw : w.heap.size < g := by omega
  clear hg hz0
  go_at_call 28
  refine (l15Draw_any A n c w.heap.size g 0 _ S1.out (HBY.out _ B1.out) (by omega) B1.out.size hn (by omega)).mono ?_
  rintro e w2 ⟨v, ⟨nm, A1, A2, n1, n2, c1, c2, ms, rs, we, rfl, t1, t2, hc1, hc2, hv⟩, rfl, hs2, hq2⟩
  have S2 := Lib.hid (hs2.alloc (.cells #[.string nm, .slice A1 n1 c1, .slice A2 n2 c2, .int .i64 we] 27))
  have X2 := Lib.hid ((X1.out.only hq2 (by omega)).call (alb0 w2 (.cells #[.string nm, .slice A1 n1 c1, .slice A2 n2 c2, .int .i64 we] 27)))
  have zw1 := B1.out.size
  have zw2 := hq2.size
  have B2 := Lib.hid (below_alloc (below_only B1.out hq2 (by omega) (by omega)) (.cells #[.string nm, .slice A1 n1 c1, .slice A2 n2 c2, .int .i64 we] 27))
  have K2 : Hid (CalIn (w2.alloc (.cells #[.string nm, .slice A1 n1 c1, .slice A2 n2 c2, .int .i64 we] 27)) w2.heap.size w1.heap.size w2.heap.size nm A1 A2 n1 n2 c1 c2 we ms rs) := Lib.hid
    ⟨cal_new w2 27 nm A1 A2 n1 n2 c1 c2 we, t1.call (alb0 _ _) (Nat.le_refl _), t2.call (alb0 _ _) (Nat.le_refl _), by simp⟩
  clear hs2 hq2 S1 X1 B1 t1 t2
  go_upto_region 3 with fail
  obtain ⟨w3, hw3⟩ : ∃ W, w2.alloc (.cells #[.string nm, .slice A1 n1 c1, .slice A2 n2 c2, .int .i64 we] 27) = W := ⟨_, rfl⟩
  rw [hw3] at S2 X2 B2 K2 ⊢
  obtain ⟨b, hbe⟩ : ∃ b, w2.heap.size = b := ⟨_, rfl⟩
  obtain ⟨lo, hlo⟩ : ∃ b, w1.heap.size = b := ⟨_, rfl⟩
  rw [hbe] at K2 zw2 ⊢
  rw [hlo] at K2 zw1 zw2 z1
  clear hw3 hbe hlo
  have S3 : Hid (Src w3.drew g A n c (0 + 100)) := Lib.hid S2.out
  have K3 : Hid (CalIn w3.drew b lo b nm A1 A2 n1 n2 c1 c2 we ms rs) := Lib.hid (K2.out.call (Below.drew (Below.refl _ _)))
  have X3 : Hid (CalBx w3.drew w.heap.size ⟨#[]⟩ none none 0 0 0 0 0) := Lib.hid (X2.out.call (Below.drew (Below.refl _ _)))
  have B3 : Hid (Below w.heap.size w w3.drew) := Lib.hid (Below.drew B2.out)
  have HV := Lib.hid hv
  clear hv
  obtain ⟨zc, u0, u1, u2, u3⟩ := K2.out.at_
  refine wp_region_held_drew (S := (fun w' => w'.cell? ⟨b, 0, none⟩ = some (.string nm) ∧ w'.cell? ⟨b, 1, none⟩ = some (.slice A1 n1 c1) ∧ w'.cell? ⟨b, 2, none⟩ = some (.slice A2 n2 c2) ∧ w'.cell? ⟨b, 3, none⟩ = some (.int .i64 we) ∧ b < w'.heap.size)) (by kernel_rfl) ?_ (fun hHeld => ?_)
  · (try dsimp only); (first | ((try go_split_ands); (try dsimp only); refine ⟨?_, ?_, ?_, ?_, ?_⟩ <;> first | (exact cell_call (by assumption) (by assumption) (by assumption)) | (exact lt_call (by assumption) (by assumption)) | (exact below_call' (by assumption) (by assumption)) | (exact Below.drew (by assumption)) | (with_reducible assumption) | (simp; done) | (simp [*]; done) | ((repeat (first | with_reducible exact Below.refl _ _ | with_reducible refine below_alloc ?_ _ | with_reducible refine below_drewN ?_ _ | with_reducible refine Below.drew ?_ | ((with_reducible refine below_set ?_ ?_ _); rotate_left; (focus (first | (simp; done) | (simp; omega) | omega))) | with_reducible refine below_call ?_ (by assumption))); done) | omega | (simp; omega) | (simp [go_sem]; done) | (simp [go_sem, *]; done)))
  (refine wpAnyH_take (i := 0) (v := ?_) rfl (by kernel_rfl) (by kernel_rfl) (by kernel_rfl) (fun _ _ _ h => h) (Or.inl ⟨by kernel_rfl, ?_⟩) (by assumption) ?_; rotate_left; (focus (intro w hSw; (try dsimp only at hSw); go_simp; (try with_reducible rfl))); (try simp only [Act.put, List.getElem_toArray, List.getElem_cons_zero, List.getElem_cons_succ, List.setIfInBounds_toArray, List.set_cons_zero, List.set_cons_succ]))
  (refine wpAnyH_take (i := 1) (v := ?_) rfl (by kernel_rfl) (by kernel_rfl) (by kernel_rfl) (fun _ _ _ h => h) (Or.inl ⟨by kernel_rfl, ?_⟩) (by assumption) ?_; rotate_left; (focus (intro w hSw; (try dsimp only at hSw); go_simp; (try with_reducible rfl))); (try simp only [Act.put, List.getElem_toArray, List.getElem_cons_zero, List.getElem_cons_succ, List.setIfInBounds_toArray, List.set_cons_zero, List.set_cons_succ]))
  refine wpAnyH_ready (rs := [2]) (by kernel_rfl) (by simp) ?_
  refine AllReadyH.cons rfl (fun K hK => ?_) (AllReadyH.nil)
  (try simp only [List.getElem_toArray, List.getElem_cons_zero, List.getElem_cons_succ])
  (try rw [if_pos (by kernel_rfl)])
  go_simp
  go_at_call 29
  refine (l17Draw_any A n c w.heap.size g (0 + 100) b lo b nm A1 A2 n1 n2 c1 c2 ms rs we _ S3.out (HBY.out _ B3.out) (by omega) B3.out.size hn (by omega) K3.out (by omega) (by omega) HV.out).mono ?_
  rintro e1 w4 ⟨L, l, cc, zs, rfl, ho, hvc, hmd, hl1, hl2, hs4, hq4⟩
  have K4 := Lib.hid (K3.out.only hq4 (by omega) (by omega))
  have X4 := Lib.hid (X3.out.only hq4 (by omega))
  have B4 := Lib.hid (below_only B3.out hq4 (by have := B3.out.size; omega) (by omega))
  have O4 := Lib.hid ho
  clear hs4 hq4 ho S3 K3 X3 B3
  obtain ⟨zc4, k0, k1, k2, k3⟩ := K4.out.at_
  (try dsimp only)
  refine hK.out _ _ ?_ (fun hHeld => ?_)
  · exact ⟨k0, k1, k2, k3, zc4⟩
  clear hK K
  (try simp only [Act.put, List.getElem_toArray, List.getElem_cons_zero, List.getElem_cons_succ, List.setIfInBounds_toArray, List.set_cons_zero, List.set_cons_succ])
  obtain ⟨⟨zx, x0, x1, x2, x3⟩, xf⟩ := X4.out
  have f0 := xf 0
  have f1 := xf 1
  have f2 := xf 2
  have f3 := xf 3
  clear xf
  refine wpAnyH_ready (rs := [3]) (by kernel_rfl) (by simp) ?_
  refine AllReadyH.cons rfl (fun K hK => ?_) (AllReadyH.nil)
  (try simp only [List.getElem_toArray, List.getElem_cons_zero, List.getElem_cons_succ])
  (try rw [if_pos (by kernel_rfl)])
  go_simp
  (try dsimp only)
  refine hK.out _ _ ?_ (fun hHeld => ?_)
  · exact ⟨(set4_keep _ (by show b ≠ w.heap.size; omega)).trans k0, (set4_keep _ (by show b ≠ w.heap.size; omega)).trans k1, (set4_keep _ (by show b ≠ w.heap.size; omega)).trans k2, (set4_keep _ (by show b ≠ w.heap.size; omega)).trans k3, by simpa using zc4⟩
  clear hK K
  (try simp only [Act.put, List.getElem_toArray, List.getElem_cons_zero, List.getElem_cons_succ, List.setIfInBounds_toArray, List.set_cons_zero, List.set_cons_succ])
  (refine wpAnyH_take (i := 4) (v := ?_) rfl (by kernel_rfl) (by kernel_rfl) (by kernel_rfl) (fun _ _ _ h => h) (Or.inl ⟨by kernel_rfl, ?_⟩) (by assumption) ?_; rotate_left; (focus (intro w hSw; (try dsimp only at hSw); go_simp; (try with_reducible rfl))); (try simp only [Act.put, List.getElem_toArray, List.getElem_cons_zero, List.getElem_cons_succ, List.setIfInBounds_toArray, List.set_cons_zero, List.set_cons_succ]))
  refine wpAnyH_done (by kernel_rfl) ?_ _
  go_wp2
  have zd : w3.drew.heap.size = w3.heap.size := rfl
  refine bodyPost_ret (v := .tuple #[.agg #[.string nm, .slice A1 n1 c1, .slice A2 n2 c2, .int .i64 we], .slice L l cc]) ?_ rfl
    ⟨⟨nm, A1, A2, n1, n2, c1, c2, ms, rs, we, L, l, cc, zs, rfl, Tri.more (TriIn.set4 K4.out.m (by omega)).1 (by simp; omega), Tri.more (TriIn.set4 K4.out.r (by omega)).1 (by simp; omega), hc1, hc2, HV.out, (Own.block O4.out (fun q hq _ => set4_heap _ (by omega))).ints (Nat.le_refl _), hvc, hmd, hl1, hl2⟩, below_set4 B4.out (Nat.le_refl _)⟩
  simp [results, Tryz.results6, go_sem, *]
end Go.Proofs.YtmbdedkelckedaaGreatDoor
