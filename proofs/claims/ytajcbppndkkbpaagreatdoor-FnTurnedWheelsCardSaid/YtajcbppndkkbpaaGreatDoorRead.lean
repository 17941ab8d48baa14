/- Contracts of the two readings of a number from a word without a sign '-'. No conditions but those on the library's variables. -/
import Derived.Test.YtajcbppndkkbpaaGreatDoorSplit
import Derived.Lib.AtoiErrMem
import Derived.Lib.AppendIntMem
namespace Go.Proofs.YtajcbppndkkbpaaGreatDoor
open Go.RowKit
set_option linter.unusedVariables false
set_option linter.unusedSimpArgs false
/-- what a word reads as: the number, and whether there is one -/
def numT (p : List UInt8) : Value := match numR p with
  | some v => .tuple #[.int .i64 (v : Int), .bool true]
  | none => .tuple #[.int .i64 0, .bool false]
theorem numT_some {p : List UInt8} {v : Nat} (h : numR p = some v) : numT p = .tuple #[.int .i64 (v : Int), .bool true] := by unfold numT; rw [h]
theorem numT_none {p : List UInt8} (h : numR p = none) : numT p = .tuple #[.int .i64 0, .bool false] := by unfold numT; rw [h]
theorem numR_len {p : List UInt8} (h : ¬ (1 ≤ p.length ∧ p.length ≤ 18)) : numR p = none := by
  cases hn : numR p with
  | none => rfl
  | some v => exact absurd ⟨(numR_some hn).2.2.2.1, (numR_some hn).2.2.2.2⟩ h
theorem numR_dig {p : List UInt8} {b : UInt8} (hb : b ∈ p) (h : dig b = false) : numR p = none := by
  unfold numR
  rw [if_neg]
  intro hc
  simp only [Bool.and_eq_true, decide_eq_true_eq, List.all_eq_true] at hc
  rw [hc.1.1.1 b hb] at h
  cases h
theorem numR_all {p : List UInt8} (h : ∀ b ∈ p, dig b = true) (h1 : 1 ≤ p.length) (h2 : p.length ≤ 18) : numR p = if Lib.decDigits (valF 0 p) = p then some (valF 0 p) else none := by
  unfold numR
  have h3 : p.all dig = true := List.all_eq_true.2 h
  have h4 : decide (1 ≤ p.length) = true := decide_eq_true h1
  have h5 : decide (p.length ≤ 18) = true := decide_eq_true h2
  rw [h3, h4, h5]
  by_cases hd : Lib.decDigits (valF 0 p) = p
  · rw [if_pos (by rw [decide_eq_true hd]; rfl), if_pos hd]
  · rw [if_neg (by rw [decide_eq_false hd]; decide), if_neg hd]
theorem byte_in {s : ByteArray} {k : Nat} (hk : k < s.size) : s[k] ∈ s.data.toList := by
  have h : k < s.data.toList.length := by simpa using hk
  exact (show s.data.toList[k] = s[k] from rfl) ▸ List.getElem_mem h
theorem head_byte {s : ByteArray} (hk : 0 < s.size) : s.data.toList.head? = some s[0] := by
  have h : 0 < s.data.toList.length := by simpa using hk
  rw [List.head?_eq_getElem?, List.getElem?_eq_getElem h]; rfl
theorem head_none {p : List UInt8} {c : UInt8} (h : c ∉ p) : p.head? ≠ some c := by
  intro e
  cases p with
  | nil => cases e
  | cons b r => injection e with e; exact h (by rw [e]; simp)
theorem take_byte {s : ByteArray} {k : Nat} (hk : k < s.size) : s.data.toList.take (k + 1) = s.data.toList.take k ++ [s[k]] := by
  have h : k < s.data.toList.length := by simpa using hk
  rw [List.take_succ_eq_append_getElem h]; rfl
theorem take_num {s : ByteArray} {k : Nat} (hk : k < s.size) (h18 : s.size ≤ 18) (h : ∀ b ∈ s.data.toList.take k, dig b = true) (hb : dig s[k] = true) :
    valF 0 (s.data.toList.take k) < 100000000000000000 ∧ valF 0 (s.data.toList.take (k + 1)) = 10 * valF 0 (s.data.toList.take k) + (s[k].toNat - 48) ∧ (∀ b ∈ s.data.toList.take (k + 1), dig b = true) := by
  refine ⟨?_, ?_, ?_⟩
  · have h1 := (valF_bd _ 0 h).2
    have h2 : (s.data.toList.take k).length ≤ 17 := by rw [List.length_take]; omega
    have h3 : 10 ^ (s.data.toList.take k).length ≤ 10 ^ 17 := Nat.pow_le_pow_right (by omega) h2
    have h4 : (10 : Nat) ^ 17 = 100000000000000000 := by decide
    rw [h4] at h3
    omega
  · rw [take_byte hk, valF_app, valF_one]; omega
  · intro b hm
    rw [take_byte hk] at hm
    rcases List.mem_append.1 hm with h1 | h1
    · exact h b h1
    · rw [List.mem_singleton.1 h1]; exact hb
theorem take_all {s : ByteArray} {k : Nat} (hk : s.size ≤ k) : s.data.toList.take k = s.data.toList := List.take_of_length_le (by simpa using hk)
theorem size_list (s : ByteArray) : s.data.toList.length = s.size := by simp
set_option maxHeartbeats 400000 in
theorem l01Digit_any (b : UInt8) (w : World) :
    Calls Tryz.prog 57 #[.int .u8 (b.toNat : Int)] w fun e w' => e = .returned (.bool (dig b)) ∧ w = w' := by
  have hb : b.toNat < 256 := b.toNat_lt
  by_cases h1 : 48 ≤ b.toNat
  · have i1 : (48 : Int) ≤ (b.toNat : Int) := by omega
    by_cases h2 : b.toNat ≤ 57
    · have i2 : (b.toNat : Int) ≤ 57 := by omega
      have hd : dig b = true := by unfold dig; simp [h1, h2]
      rw [hd]
      clear hb hd
      go_enter Tryz.func57, Tryz.ntmps57
      go_wp2
      go_ret
      exact ⟨rfl, rfl⟩
    · have i2 : ¬ ((b.toNat : Int) ≤ 57) := by omega
      have hd : dig b = false := by unfold dig; simp [h2]
      rw [hd]
      clear hb hd
      go_enter Tryz.func57, Tryz.ntmps57
      go_wp2
      go_ret
      exact ⟨rfl, rfl⟩
  · have i1 : ¬ ((48 : Int) ≤ (b.toNat : Int)) := by omega
    have hd : dig b = false := by unfold dig; simp [h1]
    rw [hd]
    clear hb hd
    go_enter Tryz.func57, Tryz.ntmps57
    go_wp2
    go_ret
    exact ⟨rfl, rfl⟩
set_option maxHeartbeats 4000000 in
theorem l01Number_any (s : ByteArray) (w : World) (h45 : s.data.toList.head? ≠ some 45) :
    Calls Tryz.prog 33 #[.string s] w fun e w' => e = .returned (numT s.data.toList) ∧ Below w.heap.size w w' := by
  have hl := size_list s
  have etl : s.toList = s.data.toList := ByteArray.toList_eq s
  by_cases h0 : s.size = 0
  · rw [numT_none (numR_len (by omega))]
    have hs : s = ⟨#[]⟩ := by
      apply ByteArray.ext
      exact Array.eq_empty_of_size_eq_zero h0
    subst hs
    clear hl etl
    go_enter Tryz.func33, Tryz.ntmps33
    go_wp2
    go_ret2
    exact ⟨rfl, Below.refl _ _⟩
  · have hb0 : 0 < s.size := by omega
    have q0 : s.toList ≠ [] := by rw [etl]; intro e; rw [e] at hl; simp at hl; omega
    have q1 : (s.toList == []) = false := by simpa using q0
    obtain ⟨b0, e0⟩ : ∃ b0, s[0] = b0 := ⟨_, rfl⟩
    have nb : ¬ (b0.toNat = 45) := fun e => h45 (by rw [head_byte hb0, e0, show b0 = 45 from UInt8.toNat_inj.1 e])
    have nb2 : ¬ ((b0.toNat : Int) = 45) := by omega
    have nb3 : ((b0.toNat : Int) == 45) = false := by simpa using nb2
    have i0 : (0 : Int) < (s.size : Int) := by omega
    have i1 : ¬ ((s.size : Int) < 1) := by omega
    by_cases h18 : 18 < s.size
    · have i2 : (18 : Int) < (s.size : Int) := by omega
      rw [numT_none (numR_len (by omega))]
      clear hl etl
      go_enter Tryz.func33, Tryz.ntmps33
      go_wp2
      go_ret2
      exact ⟨rfl, Below.refl _ _⟩
    · have i2 : ¬ ((18 : Int) < (s.size : Int)) := by omega
      have ETL := Lib.hid etl
      have HL := Lib.hid hl
      clear hl etl
      go_enter Tryz.func33, Tryz.ntmps33
      go_wp2
      go_loopw [5, 6] (fun n t wr => ∃ (k : Nat), t = .int .i64 k ∧ k ≤ s.size ∧ n = .int .i64 (valF 0 (s.data.toList.take k) : Nat) ∧ Hid (∀ b ∈ s.data.toList.take k, dig b = true) ∧ wr = w) (fun _ t _ => s.size - (intOf t).toNat)
      case atStart => exact ⟨0, rfl, Nat.zero_le _, rfl, Lib.hid (by simp), rfl⟩
      case round =>
        obtain ⟨k, rfl, hk, rfl, hA, rfl⟩ := hrel
        by_cases hlt : k < s.size
        · have j0 : (0 : Int) ≤ (k : Int) := Int.natCast_nonneg _
          have j1 : (k : Int) < (s.size : Int) := by omega
          obtain ⟨b, hb⟩ : ∃ b, s[k] = b := ⟨_, rfl⟩
          have hbm := byte_in hlt
          rw [hb] at hbm
          have HBM := Lib.hid hbm
          clear hbm
          cases hd : dig b
          · have HN := Lib.hid (numT_none (numR_dig HBM.out hd))
            have HD := Lib.hid hd
            clear hd
            go_wp2_with (first | (go_at_call 57; refine (l01Digit_any b _).mono ?_; rintro e w' ⟨rfl, rfl⟩; rw [HD.out]) | fail)
            go_ret2
            exact ⟨by rw [HN.out]; rfl, Below.refl _ _⟩
          · obtain ⟨t1, t2, t3⟩ := take_num hlt (by omega) hA.out (by rw [hb]; exact hd)
            rw [hb] at t2
            have hdd := dig_yes hd
            obtain ⟨x, hx⟩ : ∃ x, valF 0 (s.data.toList.take k) = x := ⟨_, rfl⟩
            rw [hx] at t1 t2
            rw [hx]
            have T2 := Lib.hid t2
            have T3 := Lib.hid t3
            have HD := Lib.hid hd
            clear t2 t3 hd hx
            have r1 : IntKind.u8.wrap ((b.toNat : Int) - 48) = (b.toNat : Int) - 48 := by rw [IntKind.wrap_u8]; omega
            have r2 : ((b.toNat : Int) - 48) % 256 = (b.toNat : Int) - 48 := by omega
            have r3 : IntKind.i64.wrap ((b.toNat : Int) - 48) = (b.toNat : Int) - 48 := IntWalk.i64_in _ (by omega)
            have r4 : IntKind.i64.wrap (10 * (x : Int)) = 10 * (x : Int) := IntWalk.i64_in _ (by omega)
            have r5 : IntKind.i64.wrap (10 * (x : Int) + ((b.toNat : Int) - 48)) = 10 * (x : Int) + ((b.toNat : Int) - 48) := IntWalk.i64_in _ (by omega)
            go_wp2_with (first | (go_at_call 57; refine (l01Digit_any b _).mono ?_; rintro e w' ⟨rfl, rfl⟩; rw [HD.out]) | fail)
            go_roundw
            case rel => exact ⟨k + 1, by go_num, by omega, by rw [T2.out]; congr 1; omega, T3, trivial⟩
            case measure => simp [intOf]; omega
        · have hks : k = s.size := by omega
          have hA2 : ∀ b ∈ s.data.toList, dig b = true := by have := hA.out; rwa [take_all (by omega)] at this
          have hV : valF 0 (s.data.toList.take k) = valF 0 s.data.toList := by rw [take_all (by omega)]
          have hbd := (valF_bd s.data.toList 0 hA2).2
          have hbd2 : 10 ^ s.data.toList.length ≤ 10 ^ 18 := Nat.pow_le_pow_right (by omega) (by rw [HL.out]; omega)
          have hbd3 : (10 : Nat) ^ 18 = 1000000000000000000 := by decide
          rw [hbd3] at hbd2
          have hN := numR_all hA2 (by rw [HL.out]; omega) (by rw [HL.out]; omega)
          have hvb : valF 0 s.data.toList < 1000000000000000000 := by omega
          rw [hV]
          clear hV hbd hbd2 hbd3 hA2
          obtain ⟨v, hv⟩ : ∃ v, valF 0 s.data.toList = v := ⟨_, rfl⟩
          rw [hv] at hN hvb
          rw [hv]
          clear hv
          by_cases hd : Lib.decDigits v = s.data.toList
          · rw [if_pos hd] at hN
            have HN := Lib.hid (numT_some hN)
            have f1 : Lib.decDigits v = s.toList := by rw [ETL.out, hd]
            have f2 : (Lib.decDigits v == s.toList) = true := by simpa using f1
            clear hd hN
            have F1 := Lib.hid f1
            clear f1
            go_wp2_with (first | (go_at_call 54; refine (l01Dec_any v _ hvb).mono ?_; rintro e w2 ⟨rfl, hb2⟩; have HB2 := Lib.hid hb2; clear hb2) | fail)
            go_ret2
            exact ⟨by rw [HN.out]; rfl, HB2.out⟩
          · rw [if_neg hd] at hN
            have HN := Lib.hid (numT_none hN)
            have f1 : ¬ (Lib.decDigits v = s.toList) := by rw [ETL.out]; exact hd
            have f2 : (Lib.decDigits v == s.toList) = false := by simpa using f1
            clear hd hN
            go_wp2_with (first | (go_at_call 54; refine (l01Dec_any v _ hvb).mono ?_; rintro e w2 ⟨rfl, hb2⟩; have HB2 := Lib.hid hb2; clear hb2) | fail)
            go_ret2
            exact ⟨by rw [HN.out]; rfl, HB2.out⟩
theorem parse_bd {l : List UInt8} {v : Int} (h : Lib.parseIntB 64 l = .ok v) : -9223372036854775808 ≤ v ∧ v ≤ 9223372036854775807 := by
  unfold Lib.parseIntB at h
  split at h
  · cases h
  · rename_i c r
    simp only at h
    split at h
    · cases h
    · cases h
    · rename_i u hu
      have e : (2 : Nat) ^ (64 - 1) = 9223372036854775808 := by decide
      rw [e] at h
      split at h
      · cases h
      · split at h
        · cases h
        · injection h with h
          by_cases hn : c.toNat = 45
          · rw [if_pos hn] at h; omega
          · rw [if_neg hn] at h; omega
/-- what the library's variables read as, in every world from W on -/
def Lays (W : World) (m : Int) : Prop := ∀ w', Below W.heap.size W w' → Lib.TabIs Tryz.prog w' "internal/strconv.uint64pow10" .u64 Lib.pow10Tab ∧ (∃ tp p, w'.var? Tryz.prog "strconv.ErrSyntax" = some #[.iface tp p]) ∧ (∃ tp p, w'.var? Tryz.prog "strconv.ErrRange" = some #[.iface tp p]) ∧ w'.cell? ⟨1, 0, none⟩ = some (.int .i64 m)
theorem Lays.keep {W w : World} {m : Int} (h : Lays W m) (hb : Below W.heap.size W w) : Lays w m := fun w' hb' => h w' (hb.trans (hb'.mono hb.size))
theorem Lays.here {W : World} {m : Int} (h : Lays W m) : Lib.TabIs Tryz.prog W "internal/strconv.uint64pow10" .u64 Lib.pow10Tab ∧ (∃ tp p, W.var? Tryz.prog "strconv.ErrSyntax" = some #[.iface tp p]) ∧ (∃ tp p, W.var? Tryz.prog "strconv.ErrRange" = some #[.iface tp p]) ∧ W.cell? ⟨1, 0, none⟩ = some (.int .i64 m) := h W (Below.refl _ _)
set_option maxHeartbeats 400000 in
theorem Decimal_it (z : Int) (w : World) (h0 : -9223372036854775808 ≤ z) (h1 : z ≤ 9223372036854775807) (ht : Lib.TabIs Tryz.prog w "internal/strconv.uint64pow10" .u64 Lib.pow10Tab) :
    Calls Tryz.prog 24 #[.int .i64 z] w fun e w' => e = .returned (.string ⟨(Lib.itoa z).toArray⟩) ∧ Below w.heap.size w w' := by
  have HC := Lib.hid (Tryz.strconv_FormatInt_10 z h0 h1 w ht)
  clear ht h0 h1
  go_enter Tryz.func24, Tryz.ntmps24
  go_wp2_with (first | (go_at_call 46; refine HC.out.mono ?_; rintro e w' ⟨rfl, k, os, rfl⟩) | fail)
  go_ret
  exact ⟨rfl, Lib.below_grow _ w (Nat.le_refl _) _ _⟩
theorem trim_none (s : ByteArray) (h : s.data.toList.head? ≠ some 45) : (⟨(Lib.trimPrefix s.data.toList [45]).toArray⟩ : ByteArray) = s := by
  have : Lib.hasPrefix s.data.toList [45] = false := by
    cases hs : s.data.toList with
    | nil => rfl
    | cons c r =>
      have : c ≠ 45 := fun e => h (by rw [hs, e]; rfl)
      simp [Lib.hasPrefix, List.isPrefixOf]
      exact fun e => this e.symm
  unfold Lib.trimPrefix
  rw [this]
  rfl
theorem parse_below (s : ByteArray) (v : Int) (h : Lib.parseIntB 64 s.data.toList = .ok v) (hm : s.size ≤ 1000) (w : World) : Calls Tryz.prog 52 #[.string s, .int .i64 10, .int .i64 64] w fun e w' => e = .returned (.tuple #[.int .i64 v, .nilIface]) ∧ Below w.heap.size w w' := by
  refine (Tryz.strconv_ParseInt_10_at64_ok s (by omega) v h w).mono ?_
  rintro e w' ⟨rfl, h1 | ⟨t, h1⟩⟩
  · exact ⟨rfl, by rw [h1]; exact Below.refl _ _⟩
  · exact ⟨rfl, by rw [h1]; exact Lib.bytesWorld_below w _ t⟩
theorem parse_fails (s : ByteArray) (h : (∀ v, Lib.parseIntB 64 s.data.toList ≠ .ok v)) (hm : s.size ≤ 1000) (w : World) (m : Int) (L : Lays w m) : Calls Tryz.prog 52 #[.string s, .int .i64 10, .int .i64 64] w fun e w' => ∃ x t N, e = .returned (.tuple #[.int .i64 x, .iface t (.pointer (some ⟨N, 0, none⟩))]) ∧ Below w.heap.size w w' := by
  obtain ⟨_, ⟨t1, p1, v1⟩, ⟨t2, p2, v2⟩, _⟩ := L.here
  by_cases hp : Lib.parseIntB 64 s.data.toList = .range
  · refine (Tryz.strconv_ParseInt_10_at64_range_var s (by omega) hp t2 p2 w v2).mono ?_
    rintro e w' ⟨N, rfl, _, _, hb⟩
    exact ⟨_, _, _, rfl, hb⟩
  · refine (Tryz.strconv_ParseInt_10_at64_syntax_var s (by omega) h hp t1 p1 w v1).mono ?_
    rintro e w' ⟨N, rfl, _, _, hb⟩
    exact ⟨_, _, _, rfl, hb⟩
set_option maxHeartbeats 4000000 in
theorem ReadDecimal_any (s : ByteArray) (m : Int) (w : World) (h45 : s.data.toList.head? ≠ some 45) (L : Lays w m) :
    Calls Tryz.prog 27 #[.string s] w fun e w' => e = .returned (numT s.data.toList) ∧ Below w.heap.size w w' := by
  have hl := size_list s
  have etl : s.toList = s.data.toList := ByteArray.toList_eq s
  have hT := Tryz.strings_TrimPrefix s ⟨#[45]⟩ w
  rw [show (⟨#[45]⟩ : ByteArray).data.toList = [45] from rfl, trim_none s h45] at hT
  have HT := Lib.hid hT
  have HO := Lib.hid h45
  have LL := Lib.hid L
  clear hT h45 L
  by_cases h0 : s.size = 0
  · rw [numT_none (numR_len (by omega))]
    have i1 : (s.size : Int) < 1 := by omega
    clear hl etl
    go_enter Tryz.func27, Tryz.ntmps27
    go_wp2_with (first | (go_at_call 51; refine HT.out.mono ?_; rintro e w' ⟨rfl, rfl⟩) | fail)
    go_ret2
    exact ⟨rfl, Below.refl _ _⟩
  · have i1 : ¬ ((s.size : Int) < 1) := by omega
    by_cases h18 : 18 < s.size
    · have i2 : (18 : Int) < (s.size : Int) := by omega
      rw [numT_none (numR_len (by omega))]
      clear hl etl
      go_enter Tryz.func27, Tryz.ntmps27
      go_wp2_with (first | (go_at_call 51; refine HT.out.mono ?_; rintro e w' ⟨rfl, rfl⟩) | fail)
      go_ret2
      exact ⟨rfl, Below.refl _ _⟩
    · have i2 : ¬ ((18 : Int) < (s.size : Int)) := by omega
      by_cases hp : ∃ v, Lib.parseIntB 64 s.data.toList = .ok v
      · obtain ⟨v, hp⟩ := hp
        have hbd := parse_bd hp
        have HP := Lib.hid (parse_below s v hp (by omega))
        by_cases hd : Lib.itoa v = s.data.toList
        · have hN : numT s.data.toList = .tuple #[.int .i64 v, .bool true] := by
            cases hn : numR s.data.toList with
            | none => exact absurd hd (parse_odd HO.out hn (by omega) (by omega))
            | some u =>
              rw [numT_some hn]
              obtain ⟨e1, e2, e3, e4, e5⟩ := numR_some hn
              have hdg := (decDigits_dig u).1
              rw [e1] at hdg
              have := parse_dig hdg e4 e5
              rw [hp, e3] at this
              injection this with this
              rw [this]
          rw [hN]
          have f1 : Lib.itoa v = s.toList := by rw [etl, hd]
          have f2 : (Lib.itoa v == s.toList) = true := by simpa using f1
          have F1 := Lib.hid f1
          clear hN hd hp f1 hl etl
          go_enter Tryz.func27, Tryz.ntmps27
          go_wp2_with (first | (go_at_call 51; refine HT.out.mono ?_; rintro e w' ⟨rfl, rfl⟩) | (go_at_call 52; refine (HP.out _).mono ?_; rintro e w2 ⟨rfl, hb2⟩; have HB2 := Lib.hid hb2; clear hb2) | (go_at_call 24; refine (Decimal_it v _ hbd.1 hbd.2 (LL.out.keep HB2.out).here.1).mono ?_; rintro e w3 ⟨rfl, hb3⟩; have HB3 := Lib.hid (HB2.out.trans (hb3.mono HB2.out.size)); clear hb3) | fail)
          go_ret2
          exact ⟨rfl, HB3.out⟩
        · have hN : numT s.data.toList = .tuple #[.int .i64 0, .bool false] := by
            cases hn : numR s.data.toList with
            | none => exact numT_none hn
            | some u =>
              obtain ⟨e1, e2, e3, e4, e5⟩ := numR_some hn
              have hdg := (decDigits_dig u).1
              rw [e1] at hdg
              have := parse_dig hdg e4 e5
              rw [hp, e3] at this
              injection this with this
              exact absurd (by rw [this, Lib.itoa_nonneg, e1]) hd
          rw [hN]
          have f1 : ¬ (Lib.itoa v = s.toList) := by rw [etl]; exact hd
          have f2 : (Lib.itoa v == s.toList) = false := by simpa using f1
          clear hN hd hp hl etl
          go_enter Tryz.func27, Tryz.ntmps27
          go_wp2_with (first | (go_at_call 51; refine HT.out.mono ?_; rintro e w' ⟨rfl, rfl⟩) | (go_at_call 52; refine (HP.out _).mono ?_; rintro e w2 ⟨rfl, hb2⟩; have HB2 := Lib.hid hb2; clear hb2) | (go_at_call 24; refine (Decimal_it v _ hbd.1 hbd.2 (LL.out.keep HB2.out).here.1).mono ?_; rintro e w3 ⟨rfl, hb3⟩; have HB3 := Lib.hid (HB2.out.trans (hb3.mono HB2.out.size)); clear hb3) | fail)
          go_ret2
          exact ⟨rfl, HB3.out⟩
      · have hno : ∀ v, Lib.parseIntB 64 s.data.toList ≠ .ok v := fun v e => hp ⟨v, e⟩
        have HP := Lib.hid (parse_fails s hno (by omega) w m LL.out)
        have hN : numT s.data.toList = .tuple #[.int .i64 0, .bool false] := by
          cases hn : numR s.data.toList with
          | none => exact numT_none hn
          | some u =>
            obtain ⟨e1, e2, e3, e4, e5⟩ := numR_some hn
            have hdg := (decDigits_dig u).1
            rw [e1] at hdg
            exact absurd (parse_dig hdg e4 e5) (hno _)
        rw [hN]
        clear hN hp hno hl etl
        go_enter Tryz.func27, Tryz.ntmps27
        go_wp2_with (first | (go_at_call 51; refine HT.out.mono ?_; rintro e w' ⟨rfl, rfl⟩) | (go_at_call 52; refine HP.out.mono ?_; rintro e w2 ⟨x, tt, NN, rfl, hb2⟩; have HB2 := Lib.hid hb2; clear hb2) | fail)
        go_ret2
        exact ⟨rfl, HB2.out⟩
end Go.Proofs.YtajcbppndkkbpaaGreatDoor
