/- The drawing of a year, and the number of a day of the Gregorian calendar. No conditions but bounds on the year. -/
import Derived.Test.YtanfccdeacohfaaSrc
import Derived.Test.YtanfccdeacohfaaEaster
namespace Go.Proofs.Ytanfccdeacohfaa
open Go.RowKit
set_option linter.unusedVariables false
set_option linter.unusedSimpArgs false
set_option maxHeartbeats 400000 in
theorem f6big_any (A : Option Addr) (n c : Nat) (w : World) (hn : n ≤ 9223372036854775807) :
    Calls Try.prog 23 #[.slice A n c] w fun e w' => e = .returned (.bool (decide ((4096 : Int) < n))) ∧ w = w' := by
  go_enter Try.func23, Try.ntmps23
  go_wp2
  go_ret
  exact ⟨rfl, rfl⟩
set_option maxHeartbeats 1000000 in
theorem DrawEasterOf_any (A : Option Addr) (n c : Nat) (w : World) (hb : Byts w w.heap.size A n) (hn : n ≤ 4096) :
    Calls Try.prog 24 #[.slice A n c] w fun e w' => (∃ y : Int, e = .returned (.int .i64 y) ∧ 1582 ≤ y ∧ y ≤ 10000) ∧ Below w.heap.size w w' := by
  have HB := Lib.hid hb
  clear hb
  go_enter Try.func24, Try.ntmps24
  go_wp2_with fail
  go_at_call 59
  refine (l00From_any A n c _).mono ?_
  rintro e w1 ⟨rfl, hs1, hb1⟩
  have S1 := Lib.hid hs1
  have l1 : w.heap.size < w1.heap.size := hs1.lt
  have HB1 := Lib.hid (HB.out.below hb1)
  clear hs1
  go_wp2_with fail
  go_at_call 60
  refine (one_any A n c w.heap.size w.heap.size 0 12 _ S1.out HB1.out (Nat.le_refl _) hn (by omega) (by omega)).mono ?_
  rintro e w2 ⟨v, ⟨b, rfl⟩, rfl, hs2, hg2⟩
  have S2 := Lib.hid hs2
  have B2 : Below w.heap.size w w2 := below_only hb1 hg2 hb1.size (Nat.le_refl _)
  have HB2 := Lib.hid (HB.out.below B2)
  have l2 : w.heap.size < w2.heap.size := hs2.lt
  clear hs2 hg2 hb1
  cases b
  · go_wp2_with fail
    go_at_call 62
    refine (pick_any A n c w.heap.size w.heap.size 2 8417 _ S2.out HB2.out (Nat.le_refl _) hn (by omega) (by omega)).mono ?_
    rintro e w3 ⟨v, ⟨x, rfl, x0, x1⟩, rfl, hs3, hg3⟩
    rw [if_neg (by omega)] at x1
    have S3 := Lib.hid hs3
    clear hs3
    go_wp2
    go_ret
    exact ⟨⟨_, rfl, by omega, by omega⟩, below_only B2 hg3 B2.size (Nat.le_refl _)⟩
  · go_wp2_with fail
    go_at_call 61
    refine (among_any A _ n c w.heap.size w.heap.size 4 4 [1582, 1583, 9999, 10000] 2 _ (S2.out.alloc _) (HB2.out.keep (fun p hp => World.cell?_alloc_lt _ _ _ (by omega))) (Nat.le_refl _) hn (by omega)
      ⟨rfl, fun _ => ⟨_, 0, rfl, by simp, fun j hj => by
        match j, hj with
        | 0, _ => simp
        | 1, _ => simp
        | 2, _ => simp
        | 3, _ => simp⟩⟩ (by intro ad h; cases h; simp; omega) (by omega) (by omega)).mono ?_
    rintro e w3 ⟨v, ⟨x, rfl, hx⟩, rfl, hs3, hg3⟩
    have hx2 : 1582 ≤ x ∧ x ≤ 10000 := by simp at hx; omega
    clear hx hs3
    go_wp2
    go_ret
    exact ⟨⟨_, rfl, hx2.1, hx2.2⟩, below_only (B2.alloc B2.size _) hg3 (by simp; omega) (Nat.le_refl _)⟩
/-- the days ahead of a year, and those ahead of a month from March on -/
def civil (y m d : Int) : Int := 365 * y + y / 4 - y / 100 + y / 400 + (153 * (m - 3) + 2) / 5 + d
set_option maxHeartbeats 1000000 in
theorem F6Civil_any (y m d : Int) (w : World) (y0 : 0 ≤ y) (y1 : y ≤ 20000) (m0 : 3 ≤ m) (m1 : m ≤ 12) (d0 : 0 ≤ d) (d1 : d ≤ 100) :
    Calls Try.prog 25 #[.int .i64 y, .int .i64 m, .int .i64 d] w fun e w' => e = .returned (.int .i64 (civil y m d)) ∧ w = w' := by
  have h3 : ¬ (m < 3) := by omega
  go_enter Try.func25, Try.ntmps25
  go_wp2_with (go_at_call 63; refine (l02Down_any _ _ _ (by omega) (by omega) (by omega) (by omega)).mono ?_; rintro e w' ⟨rfl, rfl⟩)
  go_ret
  exact ⟨rfl, rfl⟩
theorem easter_hi (y : Int) : easterDay y ≤ 56 := by
  unfold easterDay paschal
  simp only
  split <;> split <;> omega
theorem easter_week (y : Int) (h0 : 1583 ≤ y) (h1 : y ≤ 9999) : (365 * y + y / 4 - y / 100 + y / 400 + easterDay y) % 7 = 5 := by
  have hd : ∃ n : Int, easterDay y = n + 7 - (5 * y / 4 - eX y - 10 + n) % 7 := ⟨_, rfl⟩
  obtain ⟨n, hn⟩ := hd
  rw [hn]
  unfold eX
  have e1 : 5 * y / 4 = y + y / 4 := by omega
  have e2 : y / 400 = y / 100 / 4 := by omega
  have e3 : 3 * (y / 100 + 1) / 4 = y / 100 - y / 100 / 4 := by omega
  rw [e1, e2, e3]
  generalize y / 100 / 4 = p
  generalize y / 100 = q
  generalize y / 4 = r
  have e4 : y + r - (q - p - 12) - 10 + n = y + r - q + p + 2 + n := by omega
  rw [e4]
  omega
/-- from one Easter to the next -/
theorem easter_next (y : Int) (h0 : 1583 ≤ y) (h1 : y ≤ 9998) :
    (365 * (y + 1) + (y + 1) / 4 - (y + 1) / 100 + (y + 1) / 400 + easterDay (y + 1) - (365 * y + y / 4 - y / 100 + y / 400 + easterDay y)) % 7 = 0 ∧
    330 < 365 * (y + 1) + (y + 1) / 4 - (y + 1) / 100 + (y + 1) / 400 + easterDay (y + 1) - (365 * y + y / 4 - y / 100 + y / 400 + easterDay y) ∧
    365 * (y + 1) + (y + 1) / 4 - (y + 1) / 100 + (y + 1) / 400 + easterDay (y + 1) - (365 * y + y / 4 - y / 100 + y / 400 + easterDay y) < 400 := by
  have a1 := easter_week y h0 (by omega)
  have a2 := easter_week (y + 1) (by omega) (by omega)
  have b1 := easter_bd y
  have b2 := easter_bd (y + 1)
  have c1 := easter_hi y
  have c2 := easter_hi (y + 1)
  generalize easterDay y = D at *
  generalize easterDay (y + 1) = D' at *
  have f1 : (y + 1) / 4 - y / 4 ≤ 1 ∧ 0 ≤ (y + 1) / 4 - y / 4 := by omega
  have f2 : (y + 1) / 100 - y / 100 ≤ 1 ∧ 0 ≤ (y + 1) / 100 - y / 100 := by omega
  have f3 : (y + 1) / 400 - y / 400 ≤ 1 ∧ 0 ≤ (y + 1) / 400 - y / 400 := by omega
  have hl : 330 ≤ 365 * (y + 1) + (y + 1) / 4 - (y + 1) / 100 + (y + 1) / 400 + D' - (365 * y + y / 4 - y / 100 + y / 400 + D) := by omega
  have hh : 365 * (y + 1) + (y + 1) / 4 - (y + 1) / 100 + (y + 1) / 400 + D' - (365 * y + y / 4 - y / 100 + y / 400 + D) ≤ 401 := by omega
  generalize 365 * (y + 1) + (y + 1) / 4 - (y + 1) / 100 + (y + 1) / 400 + D' = X' at *
  generalize 365 * y + y / 4 - y / 100 + y / 400 + D = X at *
  omega
/-- the number of the day of Easter -/
def easterN (y : Int) : Int := 365 * y + y / 4 - y / 100 + y / 400 + easterDay y
theorem easter_civ {y : Int} (h : inB y 1583 9999 = true) : ∃ M d : Int, easterT y = .tuple #[.int .i64 M, .int .i64 d, .int .i64 0] ∧ civil y M d = easterN y ∧ 1 ≤ d ∧ d ≤ 31 ∧ (M = 3 ∧ 22 ≤ d ∨ M = 4 ∧ d ≤ 25) := by
  have b1 := easter_bd y
  have c1 := easter_hi y
  by_cases h2 : 31 < easterDay y
  · refine ⟨4, easterDay y - 31, (easter_late h rfl h2).symm, ?_, by omega, by omega, .inr ⟨rfl, by omega⟩⟩
    unfold civil easterN; omega
  · refine ⟨3, easterDay y, (easter_early h rfl h2).symm, ?_, by omega, by omega, .inl ⟨rfl, by omega⟩⟩
    unfold civil easterN; omega
end Go.Proofs.Ytanfccdeacohfaa
