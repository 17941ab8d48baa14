/- Decimal texts of numbers from 0 on: the reference's (digit by digit) and the program's (the library's). No conditions but that a number is below 100 for the program's, at most 10^9 for the reference's. -/
import Derived.Test.YtajcbppndkkbpaaGreatDoorApp
import Derived.Test.YtajcbppndkkbpaaGreatDoorShelf
import Derived.Lib.ItoaNum
import Derived.Laws.IdiomStrings
import Derived.Lib.SmallJoins
namespace Go.Proofs.YtajcbppndkkbpaaGreatDoor
open Go.RowKit
set_option linter.unusedVariables false
set_option linter.unusedSimpArgs false
/-- what the digits of j ahead of ds come to -/
def decLeft (j : Nat) (ds : List UInt8) : List UInt8 := if j = 0 then ds else Lib.decDigits j ++ ds
theorem decLeft_step {j : Nat} (hj : j ≠ 0) (ds : List UInt8) : decLeft (j / 10) (UInt8.ofNat (48 + j % 10) :: ds) = decLeft j ds := by
  unfold decLeft
  rw [if_neg hj]
  conv => rhs; rw [Lib.decDigits]
  by_cases h : j < 10
  · rw [if_pos (by omega), dif_pos h, Nat.mod_eq_of_lt h]; rfl
  · rw [if_neg (by omega), dif_neg h, List.append_assoc]; rfl
theorem dec_zero : Lib.decDigits 0 = [48] := by rw [Lib.decDigits]; simp
theorem str_app (a b : List UInt8) : (⟨a.toArray⟩ : ByteArray) ++ ⟨b.toArray⟩ = ⟨(a ++ b).toArray⟩ := by
  apply ByteArray.ext
  simp
theorem info_u8 : (Tryz.prog.info? 5).map (fun i => (i.zero, i.size, i.bytes)) = some (some (.int .u8 0), 1, 1) := by kernel_rfl
/-- append of a row of bytes of the call's own to another -/
theorem wpList_appB {ops : Array Oper} {rest : List Oper} {o : Oper} {a : Act} {Q : Exit → Act → World → Prop} (hgd : o.guard = none) (s x : Operand)
    (ho : o.op = .call { callee := .builtin .append, args := #[s, x], argTypes := #[22, 22] })
    (w : World) (base base' : Nat) (A : Option Addr) (n c b m cx : Nat) (xs ys : List Value) (hs : a.eval s = .slice A n c) (hx : a.eval x = .slice (some ⟨b, 0, none⟩) m cx) (hown : w.ownsRow base 5 1 (.slice A n c) n xs)
    (hy : w.ownsRow base' 5 1 (.slice (some ⟨b, 0, none⟩) m cx) m ys) (h1 : ∀ u ∈ ys, u.oneCell' = true) (hn1 : 1 ≤ n) (hn : n + m ≤ 1000000000000) (hb : base ≤ w.heap.size)
    (h : ∀ g c' w', w'.ownsRow base 5 1 (.slice (some ⟨g, 0, none⟩) (n + m) c') (n + m) (xs ++ ys) → Below base w w' → wpList Tryz.prog ops Q rest (a.put o.dst (.slice (some ⟨g, 0, none⟩) (n + m) c')) w') : wpList Tryz.prog ops Q (o :: rest) a w := by
  obtain ⟨i0, hi, hz0, hz1, hz2⟩ := info_parts info_u8
  have hl : ys.length = m * 1 := hy.1
  refine wpList_append_own_at (P := Tryz.prog) w hgd s x 22 ho base 5 i0 (.int .u8 0) 1 1 Tryz.underlying22 hi hz0 hz1 hz2 rfl (by omega) (.slice A n c) n xs hs hown ⟨b, 0, none⟩ m cx ys hx hl
    (fun j u hj => ?_) h1 (by simp only [maxLen]; omega) (by omega) hb (fun v' w' h1' h2 _ _ => ?_)
  · have hj2 : j < ys.length := (List.getElem?_eq_some_iff.1 hj).1
    have e : (⟨b, 0, none⟩ : Addr).add j = ⟨b, j, none⟩ := by unfold Addr.add; split <;> simp_all
    rw [e, World.ownsRow.cellAt hy j (by omega)]; exact hj
  · rcases h1'.2 with ⟨_, h0⟩ | ⟨g, cap, cur, e, _⟩
    · omega
    · subst e
      refine h g _ w' h1' ((Below.refl base w).grown h2 hb (fun k hk => ?_))
      rcases hown.2 with ⟨e, _⟩ | ⟨g', cap', cur', e, hg', _⟩
      · rw [e] at hk; simp [Value.ownBlock] at hk
      · rw [e] at hk; simp [Value.ownBlock] at hk; omega
theorem u8_byte (x : Nat) (h : x < 10) : Value.int .u8 (48 + (x : Int)) = Value.int .u8 ((UInt8.ofNat (48 + x)).toNat : Int) := by
  congr 1
  simp
  omega
theorem pow_step {j m n : Nat} (hj : 1 ≤ j) (hn : n < 1000000000000000000) (h : j * 10 ^ m ≤ n) : m + 1 ≤ 18 ∧ j / 10 * 10 ^ (m + 1) ≤ n := by
  have h1 : 10 ^ m ≤ n := Nat.le_trans (by have := Nat.mul_le_mul_right (10 ^ m) hj; omega) h
  refine ⟨?_, ?_⟩
  · by_cases hm : m < 18
    · omega
    · have h2 : (10 : Nat) ^ 18 ≤ 10 ^ m := Nat.pow_le_pow_right (by omega) (by omega)
      have h3 : (10 : Nat) ^ 18 = 1000000000000000000 := by decide
      rw [h3] at h2; omega
  · rw [Nat.pow_succ, Nat.mul_comm (10 ^ m) 10, ← Nat.mul_assoc]
    exact Nat.le_trans (Nat.mul_le_mul_right _ (Nat.div_mul_le_self j 10)) h
set_option maxHeartbeats 4000000 in
theorem l01Dec_any (n : Nat) (w : World) (hn : n < 1000000000000000000) :
    Calls Tryz.prog 54 #[.int .i64 (n : Int)] w fun e w' => e = .returned (.string ⟨(Lib.decDigits n).toArray⟩) ∧ Below w.heap.size w w' := by
  go_enter Tryz.func54, Tryz.ntmps54
  go_wp2
  go_loopw [3, 4] (fun l t wr => ∃ (j m c g : Nat) (ds : List UInt8), t = .int .i64 (j : Int) ∧ l = .slice (some ⟨g, 0, none⟩) m c ∧ j ≤ n ∧ m ≤ 18 ∧ Hid (j * 10 ^ m ≤ n) ∧ Hid (decLeft j ds = decLeft n []) ∧ Hid (wr.ownsRow w.heap.size 5 1 (.slice (some ⟨g, 0, none⟩) m c) m (Lib.byteCells ds)) ∧ Below w.heap.size w wr) (fun _ t _ => (intOf t).toNat)
  case atStart => exact ⟨n, 0, 0, w.heap.size, [], rfl, rfl, Nat.le_refl _, by omega, Lib.hid (by simp), Lib.hid rfl, Lib.hid (World.ownsRow_lit w #[] 0 (Nat.le_refl _) (Nat.zero_le _) (by simp)), (Below.refl _ _).alloc (Nat.le_refl _) _⟩
  case round =>
    obtain ⟨j, m, c, g, ds, rfl, rfl, hjn, hm, hpw, he, ho, hB⟩ := hrel
    have zr := hB.size
    have HB := Lib.hid hB
    clear hB
    by_cases hj : j = 0
    · subst hj
      have hd : ds = decLeft n [] := he.out
      have hml : m = ds.length := by have := ho.out.1; rw [Lib.byteCells_length] at this; omega
      subst hml
      by_cases h0 : n = 0
      · have hd2 : ds = [] := by rw [hd, h0]; rfl
        have HE := Lib.hid (show (⟨#[48]⟩ : ByteArray) = ⟨(Lib.decDigits n).toArray⟩ by rw [h0, dec_zero])
        subst hd2
        clear hd
        go_wp2
        go_ret
        exact ⟨by rw [← HE.out]; rfl, HB.out⟩
      · have hd2 : ds = Lib.decDigits n := by rw [hd, decLeft, if_neg h0, List.append_nil]
        have hpos : 0 < ds.length := by
          rw [hd2, Lib.decDigits]
          split <;> simp
        have hcv := run_convert_bytes_back (P := Tryz.prog) wr 22 9 5 ⟨g, 0, none⟩ c ds Tryz.underlying22 Tryz.underlying5 Tryz.underlying9 (fun i hi => by
          have e : (⟨g, 0, none⟩ : Addr).add i = ⟨g, i, none⟩ := by unfold Addr.add; split <;> simp_all
          rw [e, World.ownsRow.cellAt ho.out i (by omega)]
          simp [Lib.byteCells, hi])
        have n0 : ¬ ((ds.length : Int) = 0) := by omega
        have n1 : ((ds.length : Int) == 0) = false := by simpa using n0
        have n2 : ¬ (ds.length = 0) := by omega
        have n3 : ¬ (ds = []) := by intro e; rw [e] at hpos; simp at hpos
        have n4 : ¬ ((n : Int) < 0) := by omega
        have HE := Lib.hid hd2
        clear hd hd2
        go_wp2
        go_ret
        exact ⟨by rw [← HE.out]; rfl, HB.out⟩
    · have hj2 : ¬ ((j : Int) = 0) := by omega
      have hj3 : ((j : Int) != 0) = true := by simpa using hj2
      have t1 : (j : Int).tmod 10 = ((j % 10 : Nat) : Int) := by rw [Int.tmod_eq_emod_of_nonneg (Int.natCast_nonneg _)]; exact (Int.natCast_emod j 10).symm
      have t2 : (j : Int).tdiv 10 = ((j / 10 : Nat) : Int) := by rw [Int.tdiv_eq_ediv_of_nonneg (Int.natCast_nonneg _)]; exact (Int.natCast_ediv j 10).symm
      have hdl : j / 10 < j := Nat.div_lt_self (by omega) (by omega)
      have hPW := Lib.hid (pow_step (j := j) (m := m) (n := n) (by omega) hn hpw.out)
      have HS := Lib.hid ((decLeft_step hj ds).trans he.out)
      have hx10 : j % 10 < 10 := Nat.mod_lt _ (by omega)
      have hB8 := u8_byte (j % 10) hx10
      obtain ⟨x, hx⟩ : ∃ x, x = j % 10 := ⟨_, rfl⟩
      obtain ⟨q, hq⟩ : ∃ q, q = j / 10 := ⟨_, rfl⟩
      rw [← hx] at t1 hx10 HS hB8
      rw [← hq] at t2 hdl HS hPW
      have HB8 := Lib.hid hB8
      clear hx hq hB8
      have r1 : ¬ ((x : Int) < 0) := by omega
      have r2 : IntKind.i64.wrap (48 + (x : Int)) = 48 + (x : Int) := IntWalk.i64_in _ (by omega)
      have r3 : IntKind.u8.wrap (48 + (x : Int)) = 48 + (x : Int) := by rw [IntKind.wrap_u8]; omega
      have r6 : (48 + (x : Int)) % 256 = 48 + (x : Int) := by omega
      have r4 : IntKind.i64.wrap (x : Int) = (x : Int) := IntWalk.i64_in _ (by omega)
      have r5 : IntKind.i64.wrap (q : Int) = (q : Int) := IntWalk.i64_in _ (by omega)
      have OD : Hid ((wr.alloc (.cells #[.int .u8 (48 + (x : Int))] 5)).ownsRow w.heap.size 5 1 (.slice (some ⟨wr.heap.size, 0, none⟩) 1 1) 1 [.int .u8 (48 + (x : Int))]) := Lib.hid (World.ownsRow_lit wr #[.int .u8 (48 + (x : Int))] 1 (by omega) (by decide) rfl)
      have OS := Lib.hid (World.ownsRow.alloc ho.out (.cells #[.int .u8 (48 + (x : Int))] 5))
      have H1 : Hid (∀ u ∈ Lib.byteCells ds, u.oneCell' = true) := Lib.hid (fun u hu => by simp [Lib.byteCells] at hu; obtain ⟨b, _, rfl⟩ := hu; rfl)
      go_wp2_with (first | (at_builtin; refine wpList_appB rfl _ _ rfl _ w.heap.size w.heap.size _ 1 1 g m c _ _ rfl rfl OD.out OS.out H1.out (by omega) (by omega) (by simp; omega) ?_; intro g2 c2 w2 ho2 hb2; have HO2 := Lib.hid ho2; have HB2 := Lib.hid ((HB.out.alloc zr _).trans hb2); clear ho2 hb2) | fail)
      go_roundw
      case rel =>
        refine ⟨q, 1 + m, c2, g2, UInt8.ofNat (48 + x) :: ds, by first | rfl | go_num, rfl, by omega, by rw [Nat.add_comm]; exact hPW.out.1, Lib.hid (by rw [Nat.add_comm]; exact hPW.out.2), HS, Lib.hid ?_, HB2.out⟩
        have := HO2.out
        rw [HB8.out] at this
        exact this
      case measure => simp [intOf]; omega
set_option maxHeartbeats 400000 in
theorem Decimal_small (n : Nat) (w : World) (hn : n < 100) :
    Calls Tryz.prog 24 #[.int .i64 (n : Int)] w fun e w' => e = .returned (.string ⟨(Lib.decDigits n).toArray⟩) ∧ w = w' := by
  have hc := Tryz.strconv_FormatInt_10_small n hn
  have HC := Lib.hid hc
  clear hc
  go_enter Tryz.func24, Tryz.ntmps24
  go_wp2_with (first | (go_at_call 46; refine (HC.out _).mono ?_; rintro e w' ⟨rfl, rfl⟩) | fail)
  go_ret
  exact ⟨rfl, rfl⟩
end Go.Proofs.YtajcbppndkkbpaaGreatDoor
