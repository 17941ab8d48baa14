/- Contract of the validity of a calendar, the reference's. No conditions but that there are fewer than 2^63 months and rules. -/
import Derived.Test.YthjldjbblaioaaaMon
namespace Go.Proofs.Ythjldjbblaioaaa
open Go.RowKit
set_option linter.unusedVariables false
set_option linter.unusedSimpArgs false
/-- a calendar is valid -/
def vCal (nm : ByteArray) (n n' : Nat) (ms : List Mth) (rs : List Rul) (we : Int) : Bool := vRules rs n' && vName nm.data.toList && vMonths ms n && inB we 1 12
/-- a calendar in a block's first four cells -/
structure CalAt (w : World) (g : Nat) (nm : ByteArray) (A A' : Option Addr) (n n' c c' : Nat) (we : Int) : Prop where
  lt : g < w.heap.size
  c0 : w.cell? ⟨g, 0, none⟩ = some (.string nm)
  c1 : w.cell? ⟨g, 1, none⟩ = some (.slice A n c)
  c2 : w.cell? ⟨g, 2, none⟩ = some (.slice A' n' c')
  c3 : w.cell? ⟨g, 3, none⟩ = some (.int .i64 we)
theorem CalAt.call {w w' : World} {g : Nat} {nm : ByteArray} {A A' : Option Addr} {n n' c c' : Nat} {we : Int} (h : CalAt w g nm A A' n n' c c' we) (hb : Below w.heap.size w w') : CalAt w' g nm A A' n n' c c' we :=
  ⟨lt_call hb h.lt, cell_call hb (p := ⟨g, 0, none⟩) h.lt h.c0, cell_call hb (p := ⟨g, 1, none⟩) h.lt h.c1, cell_call hb (p := ⟨g, 2, none⟩) h.lt h.c2, cell_call hb (p := ⟨g, 3, none⟩) h.lt h.c3⟩
set_option maxHeartbeats 2000000 in
theorem l15Ok_any (g : Nat) (nm : ByteArray) (A A' : Option Addr) (n n' c c' B : Nat) (ms : List Mth) (rs : List Rul) (we : Int) (w : World) (hC : CalAt w g nm A A' n n' c c' we) (h : Months w B A n ms) (h' : Rules w B A' n' rs) (hB : B ≤ w.heap.size) (hn : n ≤ 9223372036854775807) (hn' : n' ≤ 9223372036854775807) (hw : ∀ j, j < n' → -9223372036854775808 ≤ (rs.getD j r0).ev) :
    Calls Try.prog 49 #[.pointer (some ⟨g, 0, none⟩)] w fun e w' => e = .returned (.bool (vCal nm n n' ms rs we)) ∧ Below w.heap.size w w' := by
  have H := Lib.hid (Tri.more h hB)
  have H' := Lib.hid (Tri.more h' hB)
  have HC := Lib.hid hC
  have k2 := hC.c2
  have zg := hC.lt
  clear h h' hC
  cases hr : vRules rs n'
  · have HR := Lib.hid hr
    have HV := Lib.hid (show vCal nm n n' ms rs we = false by unfold vCal; rw [hr]; rfl)
    clear hr
    go_enter Try.func49, Try.ntmps49
    go_wp2_with (first | (go_at_call 102; refine (l15Years_any A' n' c' w.heap.size rs _ H'.out (Nat.le_refl _) hn' hw).mono ?_; rintro e w1 ⟨x, rfl, -, hb1⟩; rw [HR.out]; have HB1 := Lib.hid hb1; clear hb1) | fail)
    go_ret
    exact ⟨by rw [HV.out]; rfl, HB1.out⟩
  · cases hv : vName nm.data.toList
    · have HR := Lib.hid hr
      have HN := Lib.hid hv
      have HV := Lib.hid (show vCal nm n n' ms rs we = false by unfold vCal; rw [hr, hv]; rfl)
      clear hr hv
      go_enter Try.func49, Try.ntmps49
      go_wp2_with (first | (go_at_call 102; refine (l15Years_any A' n' c' w.heap.size rs _ H'.out (Nat.le_refl _) hn' hw).mono ?_; rintro e w1 ⟨x, rfl, -, hb1⟩; rw [HR.out]; have K1 := HC.out.call hb1; have p0 := K1.c0; have HB1 := Lib.hid hb1; clear hb1 K1) | (go_at_call 103; refine (specIsName_any nm _).mono ?_; rintro e w2 ⟨rfl, hb2⟩; rw [HN.out]; have HB2 := Lib.hid (below_call HB1.out hb2); clear hb2) | fail)
      go_ret
      exact ⟨by rw [HV.out]; rfl, HB2.out⟩
    · cases hm : vMonths ms n
      · have HR := Lib.hid hr
        have HN := Lib.hid hv
        have HM := Lib.hid hm
        have HV := Lib.hid (show vCal nm n n' ms rs we = false by unfold vCal; rw [hr, hv, hm]; rfl)
        clear hr hv hm
        go_enter Try.func49, Try.ntmps49
        go_wp2_with (first | (go_at_call 102; refine (l15Years_any A' n' c' w.heap.size rs _ H'.out (Nat.le_refl _) hn' hw).mono ?_; rintro e w1 ⟨x, rfl, -, hb1⟩; rw [HR.out]; have K1 := Lib.hid (HC.out.call hb1); have p0 := K1.out.c0; have HB1 := Lib.hid hb1; clear hb1) | (go_at_call 103; refine (specIsName_any nm _).mono ?_; rintro e w2 ⟨rfl, hb2⟩; rw [HN.out]; have K2 := Lib.hid (K1.out.call hb2); have p1 := K2.out.c1; have HB2 := Lib.hid (below_call HB1.out hb2); clear hb2) | (go_at_call 104; refine (l15Months_any A n c w.heap.size ms _ (Tri.below H.out HB2.out) HB2.out.size hn).mono ?_; rintro e w3 ⟨rfl, hb3⟩; rw [HM.out]; have HB3 := Lib.hid (below_call HB2.out hb3); clear hb3) | fail)
        go_ret
        exact ⟨by rw [HV.out]; rfl, HB3.out⟩
      · have HR := Lib.hid hr
        have HN := Lib.hid hv
        have HM := Lib.hid hm
        have HV := Lib.hid (show vCal nm n n' ms rs we = inB we 1 12 by unfold vCal; rw [hr, hv, hm]; rfl)
        clear hr hv hm
        go_enter Try.func49, Try.ntmps49
        go_wp2_with (first | (go_at_call 102; refine (l15Years_any A' n' c' w.heap.size rs _ H'.out (Nat.le_refl _) hn' hw).mono ?_; rintro e w1 ⟨x, rfl, -, hb1⟩; rw [HR.out]; have K1 := Lib.hid (HC.out.call hb1); have p0 := K1.out.c0; have HB1 := Lib.hid hb1; clear hb1) | (go_at_call 103; refine (specIsName_any nm _).mono ?_; rintro e w2 ⟨rfl, hb2⟩; rw [HN.out]; have K2 := Lib.hid (K1.out.call hb2); have p1 := K2.out.c1; have HB2 := Lib.hid (below_call HB1.out hb2); clear hb2) | (go_at_call 104; refine (l15Months_any A n c w.heap.size ms _ (Tri.below H.out HB2.out) HB2.out.size hn).mono ?_; rintro e w3 ⟨rfl, hb3⟩; rw [HM.out]; have K3 := Lib.hid (K2.out.call hb3); have p3 := K3.out.c3; have HB3 := Lib.hid (below_call HB2.out hb3); clear hb3) | (go_at_call 81; refine (l00In_any _ _ _ _).mono ?_; rintro e w4 ⟨rfl, rfl⟩) | fail)
        go_ret
        exact ⟨by rw [HV.out]; rfl, HB3.out⟩
end Go.Proofs.Ythjldjbblaioaaa
