/- Contracts of the sizes, copies and comparisons of months, rules and calendars. No conditions but that a calendar that is copied has at most 2^20 months and rules. -/
import Derived.Test.YthjldjbblaioaaaTri
namespace Go.Proofs.Ythjldjbblaioaaa
open Go.RowKit
set_option linter.unusedVariables false
set_option linter.unusedSimpArgs false
theorem made3 (a b c : Value) (n : Nat) : (madeCells #[a, b, c] (n * 3)).toList = flat (List.replicate n (a, b, c)) := by
  apply List.ext_getElem?
  intro j
  by_cases hj : j < n * 3
  · have hq : j / 3 < (List.replicate n (a, b, c)).length := by simp; omega
    obtain ⟨f1, f2, f3⟩ := flat_at (List.replicate n (a, b, c)) (j / 3) hq
    have hd : (List.replicate n (a, b, c)).getD (j / 3) t0 = (a, b, c) := by
      rw [List.getD_eq_getElem?_getD, List.getElem?_replicate, if_pos (by simpa using hq)]; rfl
    rw [hd] at f1 f2 f3
    have hm : (madeCells #[a, b, c] (n * 3)).toList[j]? = some (#[a, b, c][j % 3]!) := by simp [madeCells, hj]
    rw [hm]
    have h3 : j % 3 < 3 := Nat.mod_lt _ (by omega)
    rcases (show j % 3 = 0 ∨ j % 3 = 1 ∨ j % 3 = 2 by omega) with h | h | h
    · rw [show j / 3 * 3 = j by omega] at f1
      rw [h, f1]; rfl
    · rw [show j / 3 * 3 + 1 = j by omega] at f2
      rw [h, f2]; rfl
    · rw [show j / 3 * 3 + 2 = j by omega] at f3
      rw [h, f3]; rfl
  · rw [List.getElem?_eq_none (by simp [madeCells]; omega), List.getElem?_eq_none (by rw [flat_len]; simp; omega)]
set_option maxHeartbeats 1000000 in
theorem szMonthS_any (A : Option Addr) (n c B : Nat) (ms : List Mth) (left : Int) (w : World) (h : Months w B A n ms) (hB : B ≤ w.heap.size) (h1 : 0 ≤ left) (h2 : left ≤ 1048576) (hn : n ≤ 9223372036854775807) (hs : ∀ j, j < n → (ms.getD j m0).nm.size ≤ 9223372036854775807) :
    Calls Try.prog 55 #[.slice A n c, .int .i64 left] w fun e w' => ∃ r : Int, e = .returned (.int .i64 r) ∧ Below w.heap.size w w' ∧ (r = -1 ∨ (0 ≤ r ∧ r ≤ left ∧ n ≤ left ∧ ∀ j, j < n → ((ms.getD j m0).nm.size : Int) ≤ left)) := by
  have H := Lib.hid (Tri.more h hB)
  have HS := Lib.hid hs
  clear h hs
  by_cases hl : left < n
  · go_enter Try.func55, Try.ntmps55
    go_wp2
    go_ret
    exact ⟨_, rfl, Below.refl _ _, .inl rfl⟩
  · go_enter Try.func55, Try.ntmps55
    go_wp2
    go_loopw [1, 5] (fun l t wr => ∃ (k : Nat) (L : Int), t = .int .i64 k ∧ k ≤ n ∧ l = .int .i64 L ∧ 0 ≤ L ∧ L ≤ left ∧ Hid (∀ j, j < k → ((ms.getD j m0).nm.size : Int) ≤ left) ∧ Below w.heap.size w wr) (fun _ t _ => n - (intOf t).toNat)
    case atStart => exact ⟨0, _, rfl, Nat.zero_le _, rfl, by omega, by omega, Lib.hid (fun j hj => absurd hj (by omega)), Below.refl _ _⟩
    case round =>
      obtain ⟨k, L, rfl, hk, rfl, hL0, hL1, hj, hb⟩ := hrel
      have i0 : (0 : Int) ≤ (k : Int) := Int.natCast_nonneg _
      by_cases hlt : k < n
      · have i1 : (k : Int) < (n : Int) := by omega
        obtain ⟨b, off, rfl, hbl, c1, c2, c3⟩ := Months.at_ (Tri.below H.out hb) hlt
        have hsz := HS.out k hlt
        obtain ⟨m, hm⟩ : ∃ m, ms.getD k m0 = m := ⟨_, rfl⟩
        rw [hm] at c1 c2 c3 hsz
        have HM := Lib.hid hm
        clear hm
        by_cases hq : L < (m.nm.size : Int)
        · have hz := fun w => szMonth_any m L w hL0 (by omega) hsz
          simp only [if_pos hq] at hz
          have HZ := Lib.hid hz
          have HB := Lib.hid hb
          clear hz hb
          go_wp2_with (first | (go_at_call 109; refine (HZ.out _).mono ?_; rintro e w2 ⟨rfl, hb2⟩; have HB2 := Lib.hid (below_call HB.out hb2); clear hb2) | fail)
          go_ret
          exact ⟨_, rfl, HB2.out, .inl rfl⟩
        · have hz := fun w => szMonth_any m L w hL0 (by omega) hsz
          simp only [if_neg hq] at hz
          have HZ := Lib.hid hz
          have HB := Lib.hid hb
          clear hz hb
          have q1 : ¬ (L - (m.nm.size : Int) < 0) := by omega
          go_wp2_with (first | (go_at_call 109; refine (HZ.out _).mono ?_; rintro e w2 ⟨rfl, hb2⟩; have HB2 := Lib.hid (below_call HB.out hb2); clear hb2) | fail)
          go_roundw
          case rel =>
            refine ⟨k + 1, _, by go_num, by omega, rfl, by omega, by omega, Lib.hid (fun j hj2 => ?_), HB2.out⟩
            by_cases e : j = k
            · subst e; rw [HM.out]; omega
            · exact hj.out j (by omega)
          case measure => simp [intOf]; omega
      · have HE := Lib.hid (show k = n by omega)
        go_wp2
        go_ret
        exact ⟨_, rfl, hb, .inr ⟨hL0, hL1, by omega, fun j hj2 => hj.out j (by rw [HE.out]; exact hj2)⟩⟩
set_option maxHeartbeats 400000 in
theorem szLeapRuleS_any (A : Option Addr) (n c : Nat) (left : Int) (w : World) (h1 : 0 ≤ left) (h2 : left ≤ 1048576) (hn : n ≤ 9223372036854775807) :
    Calls Try.prog 56 #[.slice A n c, .int .i64 left] w fun e w' => ∃ r : Int, e = .returned (.int .i64 r) ∧ Below w.heap.size w w' ∧ (r = -1 ∨ (0 ≤ r ∧ r ≤ left ∧ n ≤ left)) := by
  by_cases hl : left < n
  · go_enter Try.func56, Try.ntmps56
    go_wp2
    go_ret
    exact ⟨_, rfl, Below.refl _ _, .inl rfl⟩
  · go_enter Try.func56, Try.ntmps56
    go_wp2
    go_ret
    have g1 : 0 ≤ left - (n : Int) := by omega
    have g2 : left - (n : Int) ≤ left := by omega
    have g3 : (n : Int) ≤ left := by omega
    exact ⟨left - (n : Int), rfl, Below.refl _ _, by first | exact Or.inr ⟨g1, g2, g3⟩ | exact Or.inr ⟨g1, g2⟩⟩
theorem info_month : (Try.prog.info? 106).map (fun i => (i.zero, i.size, i.bytes)) = some (some (.agg #[.string ⟨#[]⟩, .int .i64 0, .int .i64 0]), 3, 32) := by kernel_rfl
theorem info_rule : (Try.prog.info? 132).map (fun i => (i.zero, i.size, i.bytes)) = some (some (.agg #[.int .i64 0, .int .i64 0, .bool false]), 3, 24) := by kernel_rfl
set_option maxHeartbeats 1000000 in
theorem toMonth_any (m : Mth) (w : World) :
    Calls Try.prog 114 #[.agg #[.string m.nm, .int .i64 m.dy, .int .i64 m.lp]] w fun e w' => e = .returned (.agg #[.string m.nm, .int .i64 m.dy, .int .i64 m.lp]) ∧ Below w.heap.size w w' := by
  go_enter Try.func114, Try.ntmps114
  go_wp2
  refine bodyPost_ret (v := .agg #[.string m.nm, .int .i64 m.dy, .int .i64 m.lp]) (by simp [results, Try.results114, go_sem]) rfl ⟨rfl, by (repeat (first | with_reducible exact Below.refl _ _ | with_reducible refine below_alloc ?_ _ | with_reducible refine below_drewN ?_ _ | with_reducible refine Below.drew ?_ | ((with_reducible refine below_set ?_ ?_ _); rotate_left; (focus (first | (simp; done) | (simp; omega) | omega))) | with_reducible refine below_call ?_ (by assumption)))⟩
def zM : T3 := (.string ⟨#[]⟩, .int .i64 0, .int .i64 0)
set_option maxHeartbeats 2000000 in
theorem toMonthS_any (A : Option Addr) (n c B : Nat) (ms : List Mth) (w : World) (h : Months w B A n ms) (hB : B ≤ w.heap.size) (hn : n ≤ 1048576) :
    Calls Try.prog 61 #[.slice A n c] w fun e w' => e = .returned (.slice (some ⟨w.heap.size, 0, none⟩) n n) ∧ Own3 w' 106 w.heap.size (some ⟨w.heap.size, 0, none⟩) n n (ms.map mT) ∧ Below w.heap.size w w' := by
  obtain ⟨i0, hi, hz0, hz1, hz2⟩ := info_parts info_month
  have hl := Tri.len h
  have H := Lib.hid (Tri.more h hB)
  clear h
  go_enter Try.func61, Try.ntmps61
  go_wp2_with (at_make; refine wpList_make_full w rfl _ _ _ rfl w.heap.size 106 i0 (.agg #[.string ⟨#[]⟩, .int .i64 0, .int .i64 0]) 3 Try.underlying24 hi hz0 hz1 .i64 .i64 _ _ n rfl rfl rfl rfl (by rw [hz2]; omega) (by simp only [maxLen]; omega) (Nat.le_refl _) ?_; intro w1 hown hgrow)
  have hown0 : Own3 w1 106 w.heap.size (some ⟨w.heap.size, 0, none⟩) n n (part3 zM (ms.map mT) 0) := by
    have e : (madeCells (Value.agg #[.string ⟨#[]⟩, .int .i64 0, .int .i64 0]).cells (n * 3)).toList = flat (part3 zM (ms.map mT) 0) := by
      rw [part3_none, hl]
      exact made3 _ _ _ n
    unfold Own3
    rw [← e]; exact hown
  have hb1 : Below w.heap.size w w1 := (Below.refl _ _).grown hgrow (Nat.le_refl _) (fun k hk => by cases hk)
  have HO := Lib.hid hown0
  clear hown hown0 hi hz0 hz1 hz2 hgrow
  go_loopw [4] (fun t wr => ∃ k : Nat, t = .int .i64 k ∧ k ≤ n ∧ Hid (Own3 wr 106 w.heap.size (some ⟨w.heap.size, 0, none⟩) n n (part3 zM (ms.map mT) k)) ∧ Below w.heap.size w wr) (fun t _ => n - (intOf t).toNat)
  case atStart => exact ⟨0, rfl, Nat.zero_le _, HO, hb1⟩
  case round =>
    obtain ⟨k, rfl, hk, ho, hb⟩ := hrel
    clear HO hb1
    have i0 : (0 : Int) ≤ (k : Int) := Int.natCast_nonneg _
    by_cases hlt : k < n
    · have i1 : (k : Int) < (n : Int) := by omega
      obtain ⟨b, off, rfl, hbl, c1, c2, c3⟩ := Months.at_ (Tri.below H.out hb) hlt
      have hkl : k < (ms.map mT).length := by omega
      have hms : k < ms.length := by simpa using hkl
      have hme := mT_at ms hms
      obtain ⟨m, hm⟩ : ∃ m, ms.getD k m0 = m := ⟨_, rfl⟩
      rw [hm] at c1 c2 c3 hme
      have HME := Lib.hid hme
      have HB := Lib.hid hb
      clear hme hm hb
      have HOL := Lib.hid (part3_set zM (ms.map mT) k hkl)
      have hq0 : wr.cell? ⟨w.heap.size, k * 3, none⟩ = some ((part3 zM (ms.map mT) k).getD k t0).1 := by
        rw [World.ownsRow.cellAt ho.out (k * 3) (by omega)]; exact (flat_at _ k (by rw [part3_len zM _ k (by omega)]; omega)).1
      have hq1 : wr.cell? ⟨w.heap.size, k * 3 + 1, none⟩ = some ((part3 zM (ms.map mT) k).getD k t0).2.1 := by
        rw [World.ownsRow.cellAt ho.out (k * 3 + 1) (by omega)]; exact (flat_at _ k (by rw [part3_len zM _ k (by omega)]; omega)).2.1
      have hq2 : wr.cell? ⟨w.heap.size, k * 3 + 2, none⟩ = some ((part3 zM (ms.map mT) k).getD k t0).2.2 := by
        rw [World.ownsRow.cellAt ho.out (k * 3 + 2) (by omega)]; exact (flat_at _ k (by rw [part3_len zM _ k (by omega)]; omega)).2.2
      have hf0 := World.ownsRow.frozenAt ho.out (k * 3)
      have hf1 := World.ownsRow.frozenAt ho.out (k * 3 + 1)
      have hf2 := World.ownsRow.frozenAt ho.out (k * 3 + 2)
      have hzr : w.heap.size < wr.heap.size := by
        rcases Own3.form ho.out (by omega) with hg
        exact hg
      go_wp2_with (first | (go_at_call 114; refine (toMonth_any m _).mono ?_; rintro e w2 ⟨rfl, hb2⟩; have HO2 : Hid (Own3 w2 106 w.heap.size (some ⟨w.heap.size, 0, none⟩) n n (part3 zM (ms.map mT) k)) := Lib.hid (own_call ho.out hb2); have HB2 := Lib.hid (below_call HB.out hb2); have hr0 := cell_call hb2 (p := ⟨w.heap.size, k * 3, none⟩) (by simpa using hzr) hq0; have hr1 := cell_call hb2 (p := ⟨w.heap.size, k * 3 + 1, none⟩) (by simpa using hzr) hq1; have hr2 := cell_call hb2 (p := ⟨w.heap.size, k * 3 + 2, none⟩) (by simpa using hzr) hq2; have hg0 := (hb2.frozen (p := ⟨w.heap.size, k * 3, none⟩) (by simpa using hzr)).trans hf0; have hg1 := (hb2.frozen (p := ⟨w.heap.size, k * 3 + 1, none⟩) (by simpa using hzr)).trans hf1; have hg2 := (hb2.frozen (p := ⟨w.heap.size, k * 3 + 2, none⟩) (by simpa using hzr)).trans hf2; have hz2 := lt_call hb2 hzr; clear hb2 hq0 hq1 hq2 hf0 hf1 hf2) | fail)
      go_roundw
      case rel =>
        refine ⟨k + 1, by go_num, by omega, Lib.hid ?_, ?_⟩
        · have h1 := Own3.store HO2.out (k := k) (x := (ms.map mT).getD k t0) (by rw [part3_len zM _ k (by omega)]; omega)
          rw [HOL.out, HME.out] at h1
          exact h1
        · exact ((HB2.out.setCell (Nat.le_refl _) _).setCell (Nat.le_refl _) _).setCell (Nat.le_refl _) _
      case measure => simp [intOf]; omega
    · have HE := Lib.hid (show k = n by omega)
      go_wp2
      go_ret
      refine ⟨rfl, ?_, hb⟩
      have h1 := ho.out
      rw [HE.out] at h1
      rw [← hl, part3_full, hl] at h1
      exact h1
set_option maxHeartbeats 1000000 in
theorem toLeapRule_any (m : Rul) (w : World) :
    Calls Try.prog 115 #[.agg #[.int .i64 m.ev, .int .i64 m.rs, .bool m.lp]] w fun e w' => e = .returned (.agg #[.int .i64 m.ev, .int .i64 m.rs, .bool m.lp]) ∧ Below w.heap.size w w' := by
  go_enter Try.func115, Try.ntmps115
  go_wp2
  refine bodyPost_ret (v := .agg #[.int .i64 m.ev, .int .i64 m.rs, .bool m.lp]) (by simp [results, Try.results115, go_sem]) rfl ⟨rfl, by (repeat (first | with_reducible exact Below.refl _ _ | with_reducible refine below_alloc ?_ _ | with_reducible refine below_drewN ?_ _ | with_reducible refine Below.drew ?_ | ((with_reducible refine below_set ?_ ?_ _); rotate_left; (focus (first | (simp; done) | (simp; omega) | omega))) | with_reducible refine below_call ?_ (by assumption)))⟩
def zR : T3 := (.int .i64 0, .int .i64 0, .bool false)
set_option maxHeartbeats 2000000 in
theorem toLeapRuleS_any (A : Option Addr) (n c B : Nat) (ms : List Rul) (w : World) (h : Rules w B A n ms) (hB : B ≤ w.heap.size) (hn : n ≤ 1048576) :
    Calls Try.prog 62 #[.slice A n c] w fun e w' => e = .returned (.slice (some ⟨w.heap.size, 0, none⟩) n n) ∧ Own3 w' 132 w.heap.size (some ⟨w.heap.size, 0, none⟩) n n (ms.map rT) ∧ Below w.heap.size w w' := by
  obtain ⟨i0, hi, hz0, hz1, hz2⟩ := info_parts info_rule
  have hl := Tri.len h
  have H := Lib.hid (Tri.more h hB)
  clear h
  go_enter Try.func62, Try.ntmps62
  go_wp2_with (at_make; refine wpList_make_full w rfl _ _ _ rfl w.heap.size 132 i0 (.agg #[.int .i64 0, .int .i64 0, .bool false]) 3 Try.underlying25 hi hz0 hz1 .i64 .i64 _ _ n rfl rfl rfl rfl (by rw [hz2]; omega) (by simp only [maxLen]; omega) (Nat.le_refl _) ?_; intro w1 hown hgrow)
  have hown0 : Own3 w1 132 w.heap.size (some ⟨w.heap.size, 0, none⟩) n n (part3 zR (ms.map rT) 0) := by
    have e : (madeCells (Value.agg #[.int .i64 0, .int .i64 0, .bool false]).cells (n * 3)).toList = flat (part3 zR (ms.map rT) 0) := by
      rw [part3_none, hl]
      exact made3 _ _ _ n
    unfold Own3
    rw [← e]; exact hown
  have hb1 : Below w.heap.size w w1 := (Below.refl _ _).grown hgrow (Nat.le_refl _) (fun k hk => by cases hk)
  have HO := Lib.hid hown0
  clear hown hown0 hi hz0 hz1 hz2 hgrow
  go_loopw [4] (fun t wr => ∃ k : Nat, t = .int .i64 k ∧ k ≤ n ∧ Hid (Own3 wr 132 w.heap.size (some ⟨w.heap.size, 0, none⟩) n n (part3 zR (ms.map rT) k)) ∧ Below w.heap.size w wr) (fun t _ => n - (intOf t).toNat)
  case atStart => exact ⟨0, rfl, Nat.zero_le _, HO, hb1⟩
  case round =>
    obtain ⟨k, rfl, hk, ho, hb⟩ := hrel
    clear HO hb1
    have i0 : (0 : Int) ≤ (k : Int) := Int.natCast_nonneg _
    by_cases hlt : k < n
    · have i1 : (k : Int) < (n : Int) := by omega
      obtain ⟨b, off, rfl, hbl, c1, c2, c3⟩ := Rules.at_ (Tri.below H.out hb) hlt
      have hkl : k < (ms.map rT).length := by omega
      have hms : k < ms.length := by simpa using hkl
      have hme := rT_at ms hms
      obtain ⟨m, hm⟩ : ∃ m, ms.getD k r0 = m := ⟨_, rfl⟩
      rw [hm] at c1 c2 c3 hme
      have HME := Lib.hid hme
      have HB := Lib.hid hb
      clear hme hm hb
      have HOL := Lib.hid (part3_set zR (ms.map rT) k hkl)
      have hq0 : wr.cell? ⟨w.heap.size, k * 3, none⟩ = some ((part3 zR (ms.map rT) k).getD k t0).1 := by
        rw [World.ownsRow.cellAt ho.out (k * 3) (by omega)]; exact (flat_at _ k (by rw [part3_len zR _ k (by omega)]; omega)).1
      have hq1 : wr.cell? ⟨w.heap.size, k * 3 + 1, none⟩ = some ((part3 zR (ms.map rT) k).getD k t0).2.1 := by
        rw [World.ownsRow.cellAt ho.out (k * 3 + 1) (by omega)]; exact (flat_at _ k (by rw [part3_len zR _ k (by omega)]; omega)).2.1
      have hq2 : wr.cell? ⟨w.heap.size, k * 3 + 2, none⟩ = some ((part3 zR (ms.map rT) k).getD k t0).2.2 := by
        rw [World.ownsRow.cellAt ho.out (k * 3 + 2) (by omega)]; exact (flat_at _ k (by rw [part3_len zR _ k (by omega)]; omega)).2.2
      have hf0 := World.ownsRow.frozenAt ho.out (k * 3)
      have hf1 := World.ownsRow.frozenAt ho.out (k * 3 + 1)
      have hf2 := World.ownsRow.frozenAt ho.out (k * 3 + 2)
      have hzr : w.heap.size < wr.heap.size := by
        rcases Own3.form ho.out (by omega) with hg
        exact hg
      go_wp2_with (first | (go_at_call 115; refine (toLeapRule_any m _).mono ?_; rintro e w2 ⟨rfl, hb2⟩; have HO2 : Hid (Own3 w2 132 w.heap.size (some ⟨w.heap.size, 0, none⟩) n n (part3 zR (ms.map rT) k)) := Lib.hid (own_call ho.out hb2); have HB2 := Lib.hid (below_call HB.out hb2); have hr0 := cell_call hb2 (p := ⟨w.heap.size, k * 3, none⟩) (by simpa using hzr) hq0; have hr1 := cell_call hb2 (p := ⟨w.heap.size, k * 3 + 1, none⟩) (by simpa using hzr) hq1; have hr2 := cell_call hb2 (p := ⟨w.heap.size, k * 3 + 2, none⟩) (by simpa using hzr) hq2; have hg0 := (hb2.frozen (p := ⟨w.heap.size, k * 3, none⟩) (by simpa using hzr)).trans hf0; have hg1 := (hb2.frozen (p := ⟨w.heap.size, k * 3 + 1, none⟩) (by simpa using hzr)).trans hf1; have hg2 := (hb2.frozen (p := ⟨w.heap.size, k * 3 + 2, none⟩) (by simpa using hzr)).trans hf2; have hz2 := lt_call hb2 hzr; clear hb2 hq0 hq1 hq2 hf0 hf1 hf2) | fail)
      go_roundw
      case rel =>
        refine ⟨k + 1, by go_num, by omega, Lib.hid ?_, ?_⟩
        · have h1 := Own3.store HO2.out (k := k) (x := (ms.map rT).getD k t0) (by rw [part3_len zR _ k (by omega)]; omega)
          rw [HOL.out, HME.out] at h1
          exact h1
        · exact ((HB2.out.setCell (Nat.le_refl _) _).setCell (Nat.le_refl _) _).setCell (Nat.le_refl _) _
      case measure => simp [intOf]; omega
    · have HE := Lib.hid (show k = n by omega)
      go_wp2
      go_ret
      refine ⟨rfl, ?_, hb⟩
      have h1 := ho.out
      rw [HE.out] at h1
      rw [← hl, part3_full, hl] at h1
      exact h1
end Go.Proofs.Ythjldjbblaioaaa
