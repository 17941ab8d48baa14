/- Contracts of the two readings of a number from a word that begins with the sign '-': the number is at most zero. No conditions but those on the library's variables. -/
import Derived.Test.YtmbdedkelckedaaGreatDoorRead
namespace Go.Proofs.YtmbdedkelckedaaGreatDoor
open Go.RowKit
set_option linter.unusedVariables false
set_option linter.unusedSimpArgs false
/-- a call gives a number that is at most zero, and some truth value -/
def LowNum (w : World) (e : Ending) (w' : World) : Prop := ∃ (v : Int) (ok : Bool), e = .returned (.tuple #[.int .i64 v, .bool ok]) ∧ v ≤ 0 ∧ Below w.heap.size w w'
set_option maxHeartbeats 4000000 in
theorem l01Dec_neg (n : Nat) (w : World) (hn : n < 1000000000000000000) (hn0 : 0 < n) :
    Calls Tryz.prog 67 #[.int .i64 (-(n : Int))] w fun e w' => ∃ S, e = .returned (.string S) ∧ Below w.heap.size w w' := by
  go_enter Tryz.func67, Tryz.ntmps67
  go_wp2
  go_loopw [3, 4] (fun l t wr => ∃ (j m c g : Nat) (ds : List UInt8), t = .int .i64 (-(j : Int)) ∧ l = .slice (some ⟨g, 0, none⟩) m c ∧ j ≤ n ∧ m ≤ 18 ∧ Hid (j * 10 ^ m ≤ n) ∧ Hid (decLeft j ds = decLeft n []) ∧ Hid (wr.ownsRow w.heap.size 5 1 (.slice (some ⟨g, 0, none⟩) m c) m (Lib.byteCells ds)) ∧ Below w.heap.size w wr) (fun _ t _ => (-(intOf t)).toNat)
  case atStart => exact ⟨n, 0, 0, w.heap.size, [], rfl, rfl, Nat.le_refl _, by omega, Lib.hid (by simp), Lib.hid rfl, Lib.hid (World.ownsRow_lit w #[] 0 (Nat.le_refl _) (Nat.zero_le _) (by simp)), (Below.refl _ _).alloc (Nat.le_refl _) _⟩
  case round =>
    obtain ⟨j, m, c, g, ds, rfl, rfl, hjn, hm, hpw, he, ho, hB⟩ := hrel
    have zr := hB.size
    have HB := Lib.hid hB
    clear hB
    by_cases hj : j = 0
    · subst hj
      have hd : ds = decLeft n [] := he.out
      have hml : m = ds.length := by have := ho.out.1; rw [Lib.byteCells_length] at this; omega
      subst hml
      have h0 : ¬ (n = 0) := by omega
      have hd2 : ds = Lib.decDigits n := by rw [hd, decLeft, if_neg h0, List.append_nil]
      have hpos : 0 < ds.length := by
        rw [hd2, Lib.decDigits]
        split <;> simp
      have hcv := run_convert_bytes_back (P := Tryz.prog) wr 22 9 5 ⟨g, 0, none⟩ c ds Tryz.underlying22 Tryz.underlying5 Tryz.underlying9 (fun i hi => by
        have e : (⟨g, 0, none⟩ : Addr).add i = ⟨g, i, none⟩ := by unfold Addr.add; split <;> simp_all
        rw [e, World.ownsRow.cellAt ho.out i (by omega)]
        simp [Lib.byteCells, hi])
      have n0 : ¬ ((ds.length : Int) = 0) := by omega
      have n1 : ((ds.length : Int) == 0) = false := by simpa using n0
      have n2 : ¬ (ds.length = 0) := by omega
      have n3 : ¬ (ds = []) := by intro e; rw [e] at hpos; simp at hpos
      have n4 : -(n : Int) < 0 := by omega
      have n5 : (0 : Int) < (n : Int) := by omega
      have f1 : ¬ (9223372036854775807 < 1 + ds.length) := by omega
      have f2 : ¬ (9223372036854775807 < ds.length + 1) := by omega
      clear hd hd2
      go_wp2
      go_ret
      exact ⟨_, rfl, HB.out⟩
    · have hj2 : ¬ ((j : Int) = 0) := by omega
      have hj4 : ¬ (-(j : Int) = 0) := by omega
      have hj3 : (-(j : Int) != 0) = true := by simpa using hj2
      have t1 : (-(j : Int)).tmod 10 = -((j % 10 : Nat) : Int) := by rw [Int.neg_tmod, Int.tmod_eq_emod_of_nonneg (Int.natCast_nonneg _)]; congr 1
      have t2 : (-(j : Int)).tdiv 10 = -((j / 10 : Nat) : Int) := by rw [Int.neg_tdiv, Int.tdiv_eq_ediv_of_nonneg (Int.natCast_nonneg _)]; congr 1
      have hdl : j / 10 < j := Nat.div_lt_self (by omega) (by omega)
      have hPW := Lib.hid (pow_step (j := j) (m := m) (n := n) (by omega) hn hpw.out)
      have HS := Lib.hid ((decLeft_step hj ds).trans he.out)
      have hx10 : j % 10 < 10 := Nat.mod_lt _ (by omega)
      have hB8 := u8_byte (j % 10) hx10
      obtain ⟨x, hx⟩ : ∃ x, x = j % 10 := ⟨_, rfl⟩
      obtain ⟨q, hq⟩ : ∃ q, q = j / 10 := ⟨_, rfl⟩
      rw [← hx] at t1 hx10 HS hB8
      rw [← hq] at t2 hdl HS hPW
      have HB8 := Lib.hid hB8
      clear hx hq hB8
      have r2 : IntKind.i64.wrap (48 + (x : Int)) = 48 + (x : Int) := IntWalk.i64_in _ (by omega)
      have r3 : IntKind.u8.wrap (48 + (x : Int)) = 48 + (x : Int) := by rw [IntKind.wrap_u8]; omega
      have r6 : (48 + (x : Int)) % 256 = 48 + (x : Int) := by omega
      have r4 : IntKind.i64.wrap (-(x : Int)) = -(x : Int) := IntWalk.i64_in _ (by omega)
      have r7 : IntKind.i64.wrap (x : Int) = (x : Int) := IntWalk.i64_in _ (by omega)
      have r5 : IntKind.i64.wrap (-(q : Int)) = -(q : Int) := IntWalk.i64_in _ (by omega)
      have OD : Hid ((wr.alloc (.cells #[.int .u8 (48 + (x : Int))] 5)).ownsRow w.heap.size 5 1 (.slice (some ⟨wr.heap.size, 0, none⟩) 1 1) 1 [.int .u8 (48 + (x : Int))]) := Lib.hid (World.ownsRow_lit wr #[.int .u8 (48 + (x : Int))] 1 (by omega) (by decide) rfl)
      have OS := Lib.hid (World.ownsRow.alloc ho.out (.cells #[.int .u8 (48 + (x : Int))] 5))
      have H1 : Hid (∀ u ∈ Lib.byteCells ds, u.oneCell' = true) := Lib.hid (fun u hu => by simp [Lib.byteCells] at hu; obtain ⟨b, _, rfl⟩ := hu; rfl)
      by_cases hx0 : x = 0
      · subst hx0
        go_wp2_with (first | (at_builtin; refine wpList_appB rfl _ _ rfl _ w.heap.size w.heap.size _ 1 1 g m c _ _ rfl rfl OD.out OS.out H1.out (by omega) (by omega) (by simp; omega) ?_; intro g2 c2 w2 ho2 hb2; have HO2 := Lib.hid ho2; have HB2 := Lib.hid ((HB.out.alloc zr _).trans hb2); clear ho2 hb2) | fail)
        go_roundw
        case rel =>
          refine ⟨q, 1 + m, c2, g2, UInt8.ofNat (48 + 0) :: ds, by first | rfl | go_num, rfl, by omega, by rw [Nat.add_comm]; exact hPW.out.1, Lib.hid (by rw [Nat.add_comm]; exact hPW.out.2), HS, Lib.hid ?_, HB2.out⟩
          have := HO2.out
          rw [HB8.out] at this
          exact this
        case measure => simp [intOf]; omega
      · have r1 : -(x : Int) < 0 := by omega
        have r8 : (0 : Int) < (x : Int) := by omega
        go_wp2_with (first | (at_builtin; refine wpList_appB rfl _ _ rfl _ w.heap.size w.heap.size _ 1 1 g m c _ _ rfl rfl OD.out OS.out H1.out (by omega) (by omega) (by simp; omega) ?_; intro g2 c2 w2 ho2 hb2; have HO2 := Lib.hid ho2; have HB2 := Lib.hid ((HB.out.alloc zr _).trans hb2); clear ho2 hb2) | fail)
        go_roundw
        case rel =>
          refine ⟨q, 1 + m, c2, g2, UInt8.ofNat (48 + x) :: ds, by first | rfl | go_num, rfl, by omega, by rw [Nat.add_comm]; exact hPW.out.1, Lib.hid (by rw [Nat.add_comm]; exact hPW.out.2), HS, Lib.hid ?_, HB2.out⟩
          have := HO2.out
          rw [HB8.out] at this
          exact this
        case measure => simp [intOf]; omega
theorem l01Dec_low (n : Nat) (w : World) (hn : n < 1000000000000000000) :
    Calls Tryz.prog 67 #[.int .i64 (-(n : Int))] w fun e w' => ∃ S, e = .returned (.string S) ∧ Below w.heap.size w w' := by
  by_cases h0 : n = 0
  · subst h0
    exact (l01Dec_any 0 w hn).mono fun e w' ⟨he, hb⟩ => ⟨_, he, hb⟩
  · exact l01Dec_neg n w hn (by omega)
set_option maxHeartbeats 4000000 in
theorem l01Number_neg (s : ByteArray) (w : World) (h45 : s.data.toList.head? = some 45) :
    Calls Tryz.prog 56 #[.string s] w fun e w' => LowNum w e w' := by
  have hl := size_list s
  have etl : s.toList = s.data.toList := ByteArray.toList_eq s
  have hb0 : 0 < s.size := by
    rcases Nat.eq_zero_or_pos s.size with h | h
    · rw [h] at hl
      rw [List.eq_nil_of_length_eq_zero hl] at h45; cases h45
    · exact h
  have e0 : s[0] = 45 := by rw [head_byte hb0] at h45; injection h45
  have q0 : s.toList ≠ [] := by rw [etl]; intro e; rw [e] at hl; simp at hl; omega
  have q1 : (s.toList == []) = false := by simpa using q0
  have i0 : (0 : Int) < (s.size : Int) := by omega
  have i4 : (1 : Int) ≤ (s.size : Int) := by omega
  obtain ⟨t, ht⟩ : ∃ t : ByteArray, s.extract 1 s.size = t := ⟨_, rfl⟩
  have hts : t.size = s.size - 1 := by rw [← ht]; simp
  by_cases h1 : t.size < 1
  · have i1 : (t.size : Int) < 1 := by omega
    clear hl etl
    go_enter Tryz.func56, Tryz.ntmps56
    go_wp2
    go_ret2
    exact ⟨_, _, rfl, by omega, Below.refl _ _⟩
  · have i1 : ¬ ((t.size : Int) < 1) := by omega
    by_cases h18 : 18 < t.size
    · have i2 : (18 : Int) < (t.size : Int) := by omega
      clear hl etl
      go_enter Tryz.func56, Tryz.ntmps56
      go_wp2
      go_ret2
      exact ⟨_, _, rfl, by omega, Below.refl _ _⟩
    · have i2 : ¬ ((18 : Int) < (t.size : Int)) := by omega
      have i3 : (t.size : Int) < (s.size : Int) := by omega
      have ETL := Lib.hid etl
      have HL := Lib.hid (size_list t)
      clear hl etl
      go_enter Tryz.func56, Tryz.ntmps56
      go_wp2
      go_loopw [5, 6] (fun n i wr => ∃ (k : Nat), i = .int .i64 k ∧ k ≤ t.size ∧ n = .int .i64 (valF 0 (t.data.toList.take k) : Nat) ∧ Hid (∀ b ∈ t.data.toList.take k, dig b = true) ∧ wr = w) (fun _ i _ => t.size - (intOf i).toNat)
      case atStart => exact ⟨0, rfl, Nat.zero_le _, rfl, Lib.hid (by simp), rfl⟩
      case round =>
        obtain ⟨k, rfl, hk, rfl, hA, rfl⟩ := hrel
        by_cases hlt : k < t.size
        · have j0 : (0 : Int) ≤ (k : Int) := Int.natCast_nonneg _
          have j1 : (k : Int) < (t.size : Int) := by omega
          obtain ⟨b, hb⟩ : ∃ b, t[k] = b := ⟨_, rfl⟩
          cases hd : dig b
          · have HD := Lib.hid hd
            clear hd
            go_wp2_with (first | (go_at_call 89; refine (l01Digit_any b _).mono ?_; rintro e w' ⟨rfl, rfl⟩; rw [HD.out]) | fail)
            go_ret2
            exact ⟨_, _, rfl, by omega, Below.refl _ _⟩
          · obtain ⟨t1, t2, t3⟩ := take_num hlt (by omega) hA.out (by rw [hb]; exact hd)
            rw [hb] at t2
            have hdd := dig_yes hd
            obtain ⟨x, hx⟩ : ∃ x, valF 0 (t.data.toList.take k) = x := ⟨_, rfl⟩
            rw [hx] at t1 t2
            rw [hx]
            have T2 := Lib.hid t2
            have T3 := Lib.hid t3
            have HD := Lib.hid hd
            clear t2 t3 hd hx
            have r1 : IntKind.u8.wrap ((b.toNat : Int) - 48) = (b.toNat : Int) - 48 := by rw [IntKind.wrap_u8]; omega
            have r2 : ((b.toNat : Int) - 48) % 256 = (b.toNat : Int) - 48 := by omega
            have r3 : IntKind.i64.wrap ((b.toNat : Int) - 48) = (b.toNat : Int) - 48 := IntWalk.i64_in _ (by omega)
            have r4 : IntKind.i64.wrap (10 * (x : Int)) = 10 * (x : Int) := IntWalk.i64_in _ (by omega)
            have r5 : IntKind.i64.wrap (10 * (x : Int) + ((b.toNat : Int) - 48)) = 10 * (x : Int) + ((b.toNat : Int) - 48) := IntWalk.i64_in _ (by omega)
            go_wp2_with (first | (go_at_call 89; refine (l01Digit_any b _).mono ?_; rintro e w' ⟨rfl, rfl⟩; rw [HD.out]) | fail)
            go_roundw
            case rel => exact ⟨k + 1, by go_num, by omega, by rw [T2.out]; congr 1; omega, T3, trivial⟩
            case measure => simp [intOf]; omega
        · have hA2 : ∀ b ∈ t.data.toList, dig b = true := by have := hA.out; rwa [take_all (by omega)] at this
          have hV : valF 0 (t.data.toList.take k) = valF 0 t.data.toList := by rw [take_all (by omega)]
          have hbd := (valF_bd t.data.toList 0 hA2).2
          have hbd2 : 10 ^ t.data.toList.length ≤ 10 ^ 18 := Nat.pow_le_pow_right (by omega) (by rw [HL.out]; omega)
          have hbd3 : (10 : Nat) ^ 18 = 1000000000000000000 := by decide
          rw [hbd3] at hbd2
          have hvb : valF 0 t.data.toList < 1000000000000000000 := by omega
          rw [hV]
          clear hV hbd hbd2 hbd3 hA2
          obtain ⟨v, hv⟩ : ∃ v, valF 0 t.data.toList = v := ⟨_, rfl⟩
          rw [hv] at hvb
          rw [hv]
          clear hv
          have r9 : IntKind.i64.wrap (-(v : Int)) = -(v : Int) := IntWalk.i64_in _ (by omega)
          go_wp2_with (first | (go_at_call 67; refine (l01Dec_low v _ hvb).mono ?_; rintro e w2 ⟨S, rfl, hb2⟩; have HB2 := Lib.hid hb2; clear hb2; cases hE : (S.toList == s.toList) <;> (try have hE2 : ¬ (S.toList = s.toList) := by simpa using hE)) | fail)
          all_goals
            go_wp2
            go_ret2
            exact ⟨_, _, rfl, by omega, HB2.out⟩
theorem str_size (l : List UInt8) : (⟨l.toArray⟩ : ByteArray).size = l.length := by simp [ByteArray.size]
theorem parse_low {l : List UInt8} {v : Int} (hh : l.head? = some 45) (h : Lib.parseIntB 64 l = .ok v) : v ≤ 0 := by
  unfold Lib.parseIntB at h
  split at h
  · cases h
  · rename_i c r
    have hc : c.toNat = 45 := by injection hh with hh; rw [hh]; rfl
    simp only at h
    split at h
    · cases h
    · cases h
    · rename_i u hu
      split at h
      · cases h
      · split at h
        · cases h
        · injection h with h
          first | omega | (rw [if_pos hc] at h; omega)
set_option maxHeartbeats 4000000 in
theorem ReadDecimal_neg (s : ByteArray) (m : Int) (w : World) (h45 : s.data.toList.head? = some 45) (L : Lays w m) :
    Calls Tryz.prog 41 #[.string s] w fun e w' => LowNum w e w' := by
  have HT := Lib.hid (Tryz.strings_TrimPrefix s ⟨#[45]⟩ w)
  obtain ⟨t, ht⟩ : ∃ t : ByteArray, (⟨(Lib.trimPrefix s.data.toList (⟨#[45]⟩ : ByteArray).data.toList).toArray⟩ : ByteArray) = t := ⟨_, rfl⟩
  have hts : s.size ≤ t.size + 1 := by
    rw [← ht]
    have : (Lib.trimPrefix s.data.toList (⟨#[45]⟩ : ByteArray).data.toList).length + 1 ≥ s.size := by
      unfold Lib.trimPrefix
      split
      · rw [List.length_drop, size_list]; simp; omega
      · rw [size_list]; omega
    rw [str_size]
    exact this
  rw [ht] at HT
  have HO := Lib.hid h45
  have LL := Lib.hid L
  clear h45 L ht
  by_cases h0 : t.size < 1
  · have i1 : (t.size : Int) < 1 := by omega
    go_enter Tryz.func41, Tryz.ntmps41
    go_wp2_with (first | (go_at_call 76; refine HT.out.mono ?_; rintro e w' ⟨rfl, rfl⟩) | fail)
    go_ret2
    exact ⟨_, _, rfl, by omega, Below.refl _ _⟩
  · have i1 : ¬ ((t.size : Int) < 1) := by omega
    by_cases h18 : 18 < t.size
    · have i2 : (18 : Int) < (t.size : Int) := by omega
      go_enter Tryz.func41, Tryz.ntmps41
      go_wp2_with (first | (go_at_call 76; refine HT.out.mono ?_; rintro e w' ⟨rfl, rfl⟩) | fail)
      go_ret2
      exact ⟨_, _, rfl, by omega, Below.refl _ _⟩
    · have i2 : ¬ ((18 : Int) < (t.size : Int)) := by omega
      by_cases hp : ∃ v, Lib.parseIntB 64 s.data.toList = .ok v
      · obtain ⟨v, hp⟩ := hp
        have hbd := parse_bd hp
        have hlow := parse_low HO.out hp
        have HP := Lib.hid (parse_below s v hp (by omega))
        clear hp
        cases hE : (Lib.itoa v == s.toList)
        · have hE2 : ¬ (Lib.itoa v = s.toList) := by simpa using hE
          go_enter Tryz.func41, Tryz.ntmps41
          go_wp2_with (first | (go_at_call 76; refine HT.out.mono ?_; rintro e w' ⟨rfl, rfl⟩) | (go_at_call 77; refine (HP.out _).mono ?_; rintro e w2 ⟨rfl, hb2⟩; have HB2 := Lib.hid hb2; clear hb2) | (go_at_call 43; refine (Decimal_it v _ hbd.1 hbd.2 (LL.out.keep HB2.out).here.1).mono ?_; rintro e w3 ⟨rfl, hb3⟩; have HB3 := Lib.hid (HB2.out.trans (hb3.mono HB2.out.size)); clear hb3) | fail)
          go_ret2
          exact ⟨_, _, rfl, by omega, HB3.out⟩
        · have HE := Lib.hid (show Lib.itoa v = s.toList by simpa using hE)
          go_enter Tryz.func41, Tryz.ntmps41
          go_wp2_with (first | (go_at_call 76; refine HT.out.mono ?_; rintro e w' ⟨rfl, rfl⟩) | (go_at_call 77; refine (HP.out _).mono ?_; rintro e w2 ⟨rfl, hb2⟩; have HB2 := Lib.hid hb2; clear hb2) | (go_at_call 43; refine (Decimal_it v _ hbd.1 hbd.2 (LL.out.keep HB2.out).here.1).mono ?_; rintro e w3 ⟨rfl, hb3⟩; have HB3 := Lib.hid (HB2.out.trans (hb3.mono HB2.out.size)); clear hb3) | fail)
          go_ret2
          exact ⟨_, _, rfl, hlow, HB3.out⟩
      · have hno : ∀ v, Lib.parseIntB 64 s.data.toList ≠ .ok v := fun v e => hp ⟨v, e⟩
        have HP := Lib.hid (parse_fails s hno (by omega) w m LL.out)
        clear hp hno
        go_enter Tryz.func41, Tryz.ntmps41
        go_wp2_with (first | (go_at_call 76; refine HT.out.mono ?_; rintro e w' ⟨rfl, rfl⟩) | (go_at_call 77; refine HP.out.mono ?_; rintro e w2 ⟨x, tt, NN, rfl, hb2⟩; have HB2 := Lib.hid hb2; clear hb2) | fail)
        go_ret2
        exact ⟨_, _, rfl, by omega, HB2.out⟩
end Go.Proofs.YtmbdedkelckedaaGreatDoor
