/- Contracts of the equation of time and of the times that follow from it. No conditions but that a cam has at most 2^20 steps. -/
import Derived.Test.YtmmpbbhddhapmaaSun
namespace Go.Proofs.Ytmmpbbhddhapmaa
open Go.RowKit
set_option linter.unusedVariables false
set_option linter.unusedSimpArgs false
theorem quiet_left {P : Program} {f : FuncId} {args : Array Value} {w : World} {n : Nat} {v : Value}
    (h : Calls P f args (w.drewN n) fun e w' => e = .returned v ∧ w.drewN n = w') : Calls P f args (w.drewN n) fun e w'' => e = .returned v ∧ ∃ m, w'' = w.drewN m :=
  h.mono fun _ _ ⟨he, hm⟩ => ⟨he, n, hm.symm⟩
theorem mul_bd {a b A B : Int} (h1 : -A ≤ a) (h2 : a ≤ A) (h3 : 0 ≤ b) (h4 : b ≤ B) : -(A * B) ≤ a * b ∧ a * b ≤ A * B := by
  have hA : 0 ≤ A := by omega
  have k1 : a * b ≤ A * b := Int.mul_le_mul_of_nonneg_right h2 h3
  have k2 : A * b ≤ A * B := Int.mul_le_mul_of_nonneg_left h4 hA
  have k3 : -A * b ≤ a * b := Int.mul_le_mul_of_nonneg_right h1 h3
  rw [Int.neg_mul] at k3
  omega
/-- the equation of time on a day, out of the steps of a cam -/
def eqI (zs : List Int) (n d : Nat) : Int := zs.getD (d * n / 365) 0 + near ((zs.getD ((d * n / 365 + 1) % n) 0 - zs.getD (d * n / 365) 0) * ((d * n % 365 : Nat) : Int)) 365
theorem near_bd {z : Int} (h1 : -2400 * 365 ≤ z) (h2 : z ≤ 2400 * 365) : -2401 ≤ near z 365 ∧ near z 365 ≤ 2401 := by
  unfold near; omega
theorem eqI_bd {zs : List Int} {n d : Nat} (hv : vSun zs = true) (hl : zs.length = n) (hd : d ≤ 364) : -4000 ≤ eqI zs n d ∧ eqI zs n d ≤ 4000 := by
  obtain ⟨hb, h1, h2⟩ := vSun_yes hv
  have hi : d * n / 365 < n := by
    rw [Nat.div_lt_iff_lt_mul (by omega)]
    calc d * n ≤ 364 * n := Nat.mul_le_mul_right n hd
      _ < n * 365 := by omega
  have hj : (d * n / 365 + 1) % n < n := Nat.mod_lt _ (by omega)
  have b1 := hb (d * n / 365) (by omega)
  have b2 := hb ((d * n / 365 + 1) % n) (by omega)
  have hr : ((d * n % 365 : Nat) : Int) ≤ 364 := by omega
  have hr0 : (0 : Int) ≤ ((d * n % 365 : Nat) : Int) := Int.natCast_nonneg _
  unfold eqI
  generalize zs.getD (d * n / 365) 0 = x at *
  generalize zs.getD ((d * n / 365 + 1) % n) 0 = y at *
  generalize ((d * n % 365 : Nat) : Int) = r at *
  have m := mul_bd (a := y - x) (b := r) (A := 2400) (B := 364) (by omega) (by omega) hr0 hr
  have := near_bd (z := (y - x) * r) (by omega) (by omega)
  omega
set_option maxHeartbeats 4000000 in
theorem equationAt_any (A : Option Addr) (n c B : Nat) (zs : List Int) (day : Int) (w : World) (h : Ints w B A n zs) (hB : B ≤ w.heap.size) (hv : vSun zs = true) (hd0 : 0 ≤ day) (hd1 : day ≤ 364) :
    Calls Try.prog 44 #[.agg #[.slice A n c], .int .i64 day] w fun e w' => e = .returned (.int .i64 (eqI zs n day.toNat)) ∧ Below w.heap.size w w' := by
  obtain ⟨d, rfl⟩ := Int.eq_ofNat_of_zero_le hd0
  rw [Int.toNat_natCast]
  obtain ⟨hb, h1, h2⟩ := vSun_yes hv
  rw [h.len] at h1 h2
  have hi : d * n / 365 < n := by
    rw [Nat.div_lt_iff_lt_mul (by omega)]
    calc d * n ≤ 364 * n := Nat.mul_le_mul_right n (by omega)
      _ < n * 365 := by omega
  have hj : (d * n / 365 + 1) % n < n := Nat.mod_lt _ (by omega)
  have hp : d * n ≤ 364 * 73 := Nat.mul_le_mul (by omega) h2
  have b1 := hb (d * n / 365) (by rw [h.len]; exact hi)
  have b2 := hb ((d * n / 365 + 1) % n) (by rw [h.len]; exact hj)
  have hr1 : d * n % 365 ≤ 364 := by omega
  have qP : ((d : Int) * (n : Int)) = ((d * n : Nat) : Int) := (Int.natCast_mul d n).symm
  have hE : eqI zs n d = zs.getD (d * n / 365) 0 + near ((zs.getD ((d * n / 365 + 1) % n) 0 - zs.getD (d * n / 365) 0) * ((d * n % 365 : Nat) : Int)) 365 := rfl
  obtain ⟨b, off, rfl, hbl, hc⟩ := (h.alloc hB (.cells #[.slice A n c] 27)).2 (by omega)
  have c1 := hc _ hi
  have c2 := hc _ hj
  have qd := Nat.div_add_mod (d * n) 365
  have qr : ((d * n / 365 + 1 : Nat) : Int).tmod (n : Int) = (((d * n / 365 + 1) % n : Nat) : Int) := by
    rw [Int.tmod_eq_emod_of_nonneg (Int.natCast_nonneg _)]; exact (Int.natCast_emod _ n).symm
  generalize d * n = P at *
  generalize hI : P / 365 = I at *
  generalize hJ : (I + 1) % n = J at *
  generalize hR : P % 365 = R at *
  generalize zs.getD I 0 = x at *
  generalize zs.getD J 0 = y at *
  have m := mul_bd (a := y - x) (b := (R : Int)) (A := 2400) (B := 364) (by omega) (by omega) (by omega) (by omega)
  have nb := near_bd (z := (y - x) * (R : Int)) (by omega) (by omega)
  have w1 : IntKind.i64.wrap ((I : Int) + 1) = (I : Int) + 1 := IntWalk.i64_in _ (by omega)
  have w2 : ((I : Int) + 1).tmod (n : Int) = (J : Int) := by rw [← qr]; rfl
  have w3 : IntKind.i64.wrap (y - x) = y - x := IntWalk.i64_in _ (by omega)
  have w4 : IntKind.i64.wrap ((y - x) * (R : Int)) = (y - x) * (R : Int) := IntWalk.i64_in _ (by omega)
  have w5 : IntKind.i64.wrap (x + near ((y - x) * (R : Int)) 365) = x + near ((y - x) * (R : Int)) 365 := IntWalk.i64_in _ (by omega)
  have d1 : ((P : Nat) : Int) / 365 = (I : Int) := by omega
  have d2 : ((P : Nat) : Int) - (I : Int) * 365 = (R : Int) := by omega
  have i0 : (0 : Int) ≤ (I : Int) := Int.natCast_nonneg _
  have i1 : (I : Int) < (n : Int) := by omega
  have j0 : (0 : Int) ≤ (J : Int) := Int.natCast_nonneg _
  have j1 : (J : Int) < (n : Int) := by omega
  have HE := Lib.hid hE
  clear hE h hb hv hI hJ hR qd qr hc hd0 hd1
  go_enter Try.func44, Try.ntmps44
  go_wp2
  go_quiet ((go_at_call 49; exact quiet_left (nearestDiv_any _ _ _ (by omega) (by omega) (by omega) (by omega))))
  go_wp2
  go_ret
  exact ⟨ret_int HE.out.symm, by (repeat (first | with_reducible exact Below.refl _ _ | with_reducible refine below_alloc ?_ _ | with_reducible refine below_drewN ?_ _ | with_reducible refine Below.drew ?_ | ((with_reducible refine below_set ?_ ?_ _); rotate_left; (focus (first | (simp; done) | (simp; omega) | omega))) | with_reducible refine below_call ?_ (by assumption)))⟩
set_option maxHeartbeats 4000000 in
theorem l19Equation_any (A : Option Addr) (n c B : Nat) (zs : List Int) (day : Int) (w : World) (h : Ints w B A n zs) (hB : B ≤ w.heap.size) (hv : vSun zs = true) (hd0 : 0 ≤ day) (hd1 : day ≤ 364) :
    Calls Try.prog 42 #[.agg #[.slice A n c], .int .i64 day] w fun e w' => e = .returned (.int .i64 (eqI zs n day.toNat)) ∧ Below w.heap.size w w' := by
  obtain ⟨d, rfl⟩ := Int.eq_ofNat_of_zero_le hd0
  rw [Int.toNat_natCast]
  obtain ⟨hb, h1, h2⟩ := vSun_yes hv
  rw [h.len] at h1 h2
  have hi : d * n / 365 < n := by
    rw [Nat.div_lt_iff_lt_mul (by omega)]
    calc d * n ≤ 364 * n := Nat.mul_le_mul_right n (by omega)
      _ < n * 365 := by omega
  have hj : (d * n / 365 + 1) % n < n := Nat.mod_lt _ (by omega)
  have hp : d * n ≤ 364 * 73 := Nat.mul_le_mul (by omega) h2
  have b1 := hb (d * n / 365) (by rw [h.len]; exact hi)
  have b2 := hb ((d * n / 365 + 1) % n) (by rw [h.len]; exact hj)
  have hr1 : d * n % 365 ≤ 364 := by omega
  have qP : ((d : Int) * (n : Int)) = ((d * n : Nat) : Int) := (Int.natCast_mul d n).symm
  have hE : eqI zs n d = zs.getD (d * n / 365) 0 + near ((zs.getD ((d * n / 365 + 1) % n) 0 - zs.getD (d * n / 365) 0) * ((d * n % 365 : Nat) : Int)) 365 := rfl
  obtain ⟨b, off, rfl, hbl, hc⟩ := (h.alloc hB (.cells #[.slice A n c] 27)).2 (by omega)
  have c1 := hc _ hi
  have c2 := hc _ hj
  have qd := Nat.div_add_mod (d * n) 365
  have qr : ((d * n / 365 + 1 : Nat) : Int).tmod (n : Int) = (((d * n / 365 + 1) % n : Nat) : Int) := by
    rw [Int.tmod_eq_emod_of_nonneg (Int.natCast_nonneg _)]; exact (Int.natCast_emod _ n).symm
  generalize d * n = P at *
  generalize hI : P / 365 = I at *
  generalize hJ : (I + 1) % n = J at *
  generalize hR : P % 365 = R at *
  generalize zs.getD I 0 = x at *
  generalize zs.getD J 0 = y at *
  have m := mul_bd (a := y - x) (b := (R : Int)) (A := 2400) (B := 364) (by omega) (by omega) (by omega) (by omega)
  have nb := near_bd (z := (y - x) * (R : Int)) (by omega) (by omega)
  have w1 : IntKind.i64.wrap ((I : Int) + 1) = (I : Int) + 1 := IntWalk.i64_in _ (by omega)
  have w2 : ((I : Int) + 1).tmod (n : Int) = (J : Int) := by rw [← qr]; rfl
  have w3 : IntKind.i64.wrap (y - x) = y - x := IntWalk.i64_in _ (by omega)
  have w4 : IntKind.i64.wrap ((y - x) * (R : Int)) = (y - x) * (R : Int) := IntWalk.i64_in _ (by omega)
  have w5 : IntKind.i64.wrap (x + near ((y - x) * (R : Int)) 365) = x + near ((y - x) * (R : Int)) 365 := IntWalk.i64_in _ (by omega)
  have d1 : ((P : Nat) : Int) / 365 = (I : Int) := by omega
  have d2 : ((P : Nat) : Int) - (I : Int) * 365 = (R : Int) := by omega
  have i0 : (0 : Int) ≤ (I : Int) := Int.natCast_nonneg _
  have i1 : (I : Int) < (n : Int) := by omega
  have j0 : (0 : Int) ≤ (J : Int) := Int.natCast_nonneg _
  have j1 : (J : Int) < (n : Int) := by omega
  have HE := Lib.hid hE
  clear hE h hb hv hI hJ hR qd qr hc hd0 hd1
  go_enter Try.func42, Try.ntmps42
  go_wp2
  go_quiet ((go_at_call 48; exact quiet_left (l02Near_any _ _ _ (by omega) (by omega) (by omega) (by omega))))
  go_wp2
  go_ret
  exact ⟨ret_int HE.out.symm, by (repeat (first | with_reducible exact Below.refl _ _ | with_reducible refine below_alloc ?_ _ | with_reducible refine below_drewN ?_ _ | with_reducible refine Below.drew ?_ | ((with_reducible refine below_set ?_ ?_ _); rotate_left; (focus (first | (simp; done) | (simp; omega) | omega))) | with_reducible refine below_call ?_ (by assumption)))⟩
end Go.Proofs.Ytmmpbbhddhapmaa
