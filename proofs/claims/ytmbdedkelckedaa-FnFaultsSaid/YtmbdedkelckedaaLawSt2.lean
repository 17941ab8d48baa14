/- What the law of the nights keeps in its hands beside: a number from bytes, works in boxes that are written. No conditions but that there are at most 4096 bytes. -/
import Derived.Test.YtmbdedkelckedaaLawSt
import Derived.Test.YtmbdedkelckedaaRun
import Derived.Test.YtmbdedkelckedaaSame
namespace Go.Proofs.Ytmbdedkelckedaa
open Go.RowKit
set_option linter.unusedVariables false
set_option linter.unusedSimpArgs false
set_option maxHeartbeats 1000000 in
theorem a2At_any (A : Option Addr) (n c B k : Nat) (m : Int) (w : World) (hb : Byts w B A n) (hn : n ≤ 4096) (hk : k ≤ 100) (m1 : 1 ≤ m) (m2 : m ≤ 1000) :
    Calls Try.prog 13 #[.slice A n c, .int .i64 (k : Int), .int .i64 m] w fun e w' => ∃ x : Nat, e = .returned (.int .i64 (x : Int)) ∧ (x : Int) < m ∧ w = w' := by
  by_cases h : k < n
  · obtain ⟨b, off, rfl, hbl, hc⟩ := hb (by omega)
    obtain ⟨x, x0, x1, hx⟩ := hc k h
    have i1 : ¬ ((n : Int) ≤ (k : Int)) := by omega
    have i2 : ¬ (m < 1) := by omega
    have e0 : (m == 0) = false := by rw [beq_eq_false_iff_ne]; omega
    have e1 : ¬ (m = 0) := by omega
    have h0 := Int.emod_nonneg x (show m ≠ 0 by omega)
    have h1 := Int.emod_lt_of_pos x (show 0 < m by omega)
    have ht : x.tmod m = x % m := Int.tmod_eq_emod_of_nonneg x0
    obtain ⟨r, hr⟩ := Int.eq_ofNat_of_zero_le h0
    have HR := Lib.hid hr
    clear hr hc
    go_enter Try.func13, Try.ntmps13
    go_wp2
    go_ret
    exact ⟨r, by rw [← HR.out]; rfl, by rw [← HR.out]; exact h1, rfl⟩
  · have i1 : (n : Int) ≤ (k : Int) := by omega
    go_enter Try.func13, Try.ntmps13
    go_wp2
    go_ret
    exact ⟨0, rfl, by omega, rfl⟩
theorem push_two {n k : Nat} {te da j : Int} (h : da + j ≤ te) : mvK n te k da j = k ∧ mvD te da j = da + j ∧ mvK n te k (da + j) 1 = mvK n te k da (j + 1) ∧ mvD te (da + j) 1 = mvD te da (j + 1) := by
  refine ⟨by unfold mvK; rw [if_neg (by omega)], by unfold mvD; rw [if_neg (by omega)], ?_, ?_⟩
  · unfold mvK; rw [Int.add_assoc]
  · unfold mvD; rw [Int.add_assoc]
/-- a work's box beside stores into another one -/
theorem PB.set7 {W : World} {p q l cc : Nat} {L : Option Addr} {zs : List Int} {mo te ix da we wd : Int} {v0 v1 v2 v3 v4 v5 v6 : Value} (h : PB W p L l cc zs mo te ix da we wd) (hp : p ≠ q) (hl : ∀ ad, L = some ad → ad.block ≠ q) :
    PB (((((((W.setCell ⟨q, 0, none⟩ v0).setCell ⟨q, 1, none⟩ v1).setCell ⟨q, 2, none⟩ v2).setCell ⟨q, 3, none⟩ v3).setCell ⟨q, 4, none⟩ v4).setCell ⟨q, 5, none⟩ v5).setCell ⟨q, 6, none⟩ v6) p L l cc zs mo te ix da we wd :=
  ⟨h.wk.keep (set7_heap _ hp), Ints.ne h.iz hl (fun a ha => set7_keep W ha) (by simp)⟩
/-- a work is stored into a box -/
theorem pb_set7 {W : World} {q l cc : Nat} {L : Option Addr} {zs : List Int} {S0 : Value} {a1 a2 a3 a4 a5 a6 : Int} (h : Work W q S0 a1 a2 a3 a4 a5 a6) (hi : Ints W W.heap.size L l zs) (hl : ∀ ad, L = some ad → ad.block ≠ q) (mo te ix da we wd : Int) :
    PB (((((((W.setCell ⟨q, 0, none⟩ (.slice L l cc)).setCell ⟨q, 1, none⟩ (.int .i64 mo)).setCell ⟨q, 2, none⟩ (.int .i64 te)).setCell ⟨q, 3, none⟩ (.int .i64 ix)).setCell ⟨q, 4, none⟩ (.int .i64 da)).setCell ⟨q, 5, none⟩ (.int .i64 we)).setCell ⟨q, 6, none⟩ (.int .i64 wd)) q L l cc zs mo te ix da we wd :=
  ⟨work_set7 h _ _ _ _ _ _ _, Ints.ne hi hl (fun a ha => set7_keep W ha) (by simp)⟩
theorem ints_far {W : World} {B q l : Nat} {L : Option Addr} {zs : List Int} (h : Ints W B L l zs) (hl : 1 ≤ l) (hq : B ≤ q) : ∀ ad, L = some ad → ad.block ≠ q := by
  obtain ⟨b, off, rfl, hb, _⟩ := h.2 (by omega)
  intro ad e
  injection e with e
  subst e
  show b ≠ q
  omega
theorem own_far {W : World} {base q l c : Nat} {L : Option Addr} {zs : List Int} (h : Own W base L l c zs) (hq : q < base) : ∀ ad, L = some ad → ad.block ≠ q := fun ad e => by have := (IntsIn.of h).2 ad e; omega
theorem push_okD {zs : List Int} {n K : Nat} {mo te da we wd : Int} (h : vPerp zs n mo te (K : Int) da we wd = true) : rPushDate zs n mo te (K : Int) da we wd = okP zs n mo te (mvK n te K da 1 : Int) (mvD te da 1) we wd := by
  unfold rPushDate
  rw [h, if_pos rfl]; rfl
theorem push_okW {zs : List Int} {n K : Nat} {mo te da we wd : Int} (h : vPerp zs n mo te (K : Int) da we wd = true) : rPushWeekday zs n mo te (K : Int) da we wd = okP zs n mo te (K : Int) da we (mvW we wd) := by
  unfold rPushWeekday
  rw [h, if_pos rfl]; rfl
theorem same_self (zs : List Int) (mo te ix da we wd : Int) : sameB zs zs mo te ix da we wd mo te ix da we wd = true := by unfold sameB; simp
end Go.Proofs.Ytmbdedkelckedaa
