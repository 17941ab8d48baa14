/- Contracts of the program's and the reference's functions, several texts in one; what each says, and its conditions, stands at its head. -/
import Derived.Test.YtmbdedkelckedaaGreatDoorCore5
import Derived.Test.YtmbdedkelckedaaGreatDoorCore1
import Derived.Deep.Upon
import Derived.Deep.RegionHeld3
import Derived.BigQuiet
/- Contracts of what is asked of a calendar and a cam, the program's and the reference's. No conditions but that there are at most 2^20 months, rules and levels. -/
namespace Go.Proofs.YtmbdedkelckedaaGreatDoor
open Go.RowKit
set_option linter.unusedVariables false
set_option linter.unusedSimpArgs false
/-- the years of a cam, 0 if it does not belong to the calendar -/
def belV (l n : Nat) : Int := if l % n = 0 then ((l / n : Nat) : Int) else 0
theorem belV_yes {l n : Nat} (h : l % n = 0) : belV l n = ((l / n : Nat) : Int) := by rw [belV, if_pos h]
theorem belV_no {l n : Nat} (h : ¬ (l % n = 0)) : belV l n = 0 := by rw [belV, if_neg h]
theorem nat_tmod (l n : Nat) : (l : Int).tmod (n : Int) = ((l % n : Nat) : Int) := by rw [Int.tmod_eq_emod_of_nonneg (Int.natCast_nonneg l)]; exact (Int.natCast_emod l n).symm
theorem nat_tdiv (l n : Nat) : (l : Int).tdiv (n : Int) = ((l / n : Nat) : Int) := by rw [Int.tdiv_eq_ediv_of_nonneg (Int.natCast_nonneg l)]; exact (Int.natCast_ediv l n).symm
set_option maxHeartbeats 1000000 in
theorem belongs_any (nm : ByteArray) (A A' L : Option Addr) (n n' c c' l e : Nat) (cw : Int) (w : World) (hn : 1 ≤ n) (hn2 : n ≤ 1048576) (hl : l ≤ 1048576) :
    Calls Tryz.prog 75 #[.agg #[.string nm, .slice A n c, .slice A' n' c', .int .i64 cw], .slice L l e] w fun e w' => e = .returned (.int .i64 (belV l n)) ∧ Below w.heap.size w w' := by
  have t1 := nat_tmod l n
  have t2 := nat_tdiv l n
  have n0 : ¬ ((n : Int) = 0) := by omega
  have n1 : ((n : Int) == 0) = false := by rw [beq_eq_false_iff_ne]; omega
  have q1 : l / n ≤ l := Nat.div_le_self l n
  have q2 : l % n ≤ l := Nat.mod_le l n
  by_cases h : l % n = 0
  · rw [belV_yes h]
    rw [h] at t1
    obtain ⟨q, hq⟩ : ∃ q, l / n = q := ⟨_, rfl⟩
    rw [hq] at t2 q1
    rw [hq]
    have r1 : IntKind.i64.wrap (q : Int) = (q : Int) := IntWalk.i64_in _ (by omega)
    clear hq h q2
    go_enter Tryz.func75, Tryz.ntmps75
    go_wp2
    go_ret
    exact ⟨rfl, by (repeat (first | with_reducible exact Below.refl _ _ | with_reducible refine below_alloc ?_ _ | with_reducible refine below_drewN ?_ _ | with_reducible refine Below.drew ?_ | ((with_reducible refine below_set ?_ ?_ _); rotate_left; (focus (first | (simp; done) | (simp; omega) | omega))) | with_reducible refine below_call ?_ (by assumption)))⟩
  · rw [belV_no h]
    obtain ⟨q, hq⟩ : ∃ q, l % n = q := ⟨_, rfl⟩
    rw [hq] at t1 h q2
    have h2 : ¬ ((q : Int) = 0) := by omega
    have h3 : ((q : Int) != 0) = true := by simpa using h2
    have r1 : IntKind.i64.wrap (q : Int) = (q : Int) := IntWalk.i64_in _ (by omega)
    clear hq t2 q1 h
    go_enter Tryz.func75, Tryz.ntmps75
    go_wp2
    go_ret
    exact ⟨rfl, by (repeat (first | with_reducible exact Below.refl _ _ | with_reducible refine below_alloc ?_ _ | with_reducible refine below_drewN ?_ _ | with_reducible refine Below.drew ?_ | ((with_reducible refine below_set ?_ ?_ _); rotate_left; (focus (first | (simp; done) | (simp; omega) | omega))) | with_reducible refine below_call ?_ (by assumption)))⟩
/-- the code of a calendar and a cam -/
def askV (nm : ByteArray) (n n' : Nat) (ms : List Mth) (rs : List Rul) (cw : Int) (zs : List Int) (l : Nat) : Int := if vCal nm n n' ms rs cw && vCam zs then if l % n = 0 then 0 else 6 else 1
theorem ask_bad {nm : ByteArray} {n n' : Nat} {ms : List Mth} {rs : List Rul} {cw : Int} {zs : List Int} {l : Nat} (h : (vCal nm n n' ms rs cw && vCam zs) = false) : askV nm n n' ms rs cw zs l = 1 := by rw [askV, h]; rfl
theorem ask_good {nm : ByteArray} {n n' : Nat} {ms : List Mth} {rs : List Rul} {cw : Int} {zs : List Int} {l : Nat} (h : vCal nm n n' ms rs cw = true) (h2 : vCam zs = true) : askV nm n n' ms rs cw zs l = if l % n = 0 then 0 else 6 := by rw [askV, h, h2]; rfl
theorem ask_yes {nm : ByteArray} {n n' : Nat} {ms : List Mth} {rs : List Rul} {cw : Int} {zs : List Int} {l : Nat} (h : askV nm n n' ms rs cw zs l = 0) : vCal nm n n' ms rs cw = true ∧ vCam zs = true ∧ l % n = 0 := by
  unfold askV at h
  split at h
  · rename_i h1
    rw [Bool.and_eq_true] at h1
    split at h
    · exact ⟨h1.1, h1.2, by assumption⟩
    · simp at h
  · simp at h
theorem ask_cases (nm : ByteArray) (n n' : Nat) (ms : List Mth) (rs : List Rul) (cw : Int) (zs : List Int) (l : Nat) : askV nm n n' ms rs cw zs l = 0 ∨ askV nm n n' ms rs cw zs l = 1 ∨ askV nm n n' ms rs cw zs l = 6 := by
  unfold askV
  split
  · split <;> simp
  · simp
set_option maxHeartbeats 2000000 in
theorem askedCam_any (nm : ByteArray) (A A' L : Option Addr) (n n' c c' l e B : Nat) (ms : List Mth) (rs : List Rul) (cw : Int) (zs : List Int) (w : World) (h : Months w B A n ms) (h' : Rules w B A' n' rs) (hI : Ints w B L l zs) (hB : B ≤ w.heap.size) (hn : n ≤ c) (hc : c ≤ 9223372036854775807) (hn' : n' ≤ 1048576) (hl : l ≤ 1048576) :
    Calls Tryz.prog 35 #[.agg #[.string nm, .slice A n c, .slice A' n' c', .int .i64 cw], .slice L l e] w fun e w' => e = .returned (.int .i64 (askV nm n n' ms rs cw zs l)) ∧ Below w.heap.size w w' := by
  have H := Lib.hid (Tri.more h hB)
  have H' := Lib.hid (Tri.more h' hB)
  have HI := Lib.hid (hI.more hB)
  clear h h' hI
  have cV := fun (W : World) (hb : Below w.heap.size w W) => ValidCalendar_any nm A A' n n' c c' w.heap.size ms rs cw W (Tri.below H.out hb) (Tri.below H'.out hb) hb.size hn (by omega) (by omega)
  cases v1 : vCal nm n n' ms rs cw
  · have HV := Lib.hid (ask_bad (zs := zs) (l := l) (show (vCal nm n n' ms rs cw && vCam zs) = false by rw [v1]; rfl))
    rw [v1] at cV
    have CV := Lib.hid cV
    clear cV v1
    go_enter Tryz.func35, Tryz.ntmps35
    go_wp2_with (first | (go_at_call 30; refine (CV.out _ (by (repeat (first | with_reducible exact Below.refl _ _ | with_reducible refine below_alloc ?_ _ | with_reducible refine below_drewN ?_ _ | with_reducible refine Below.drew ?_ | ((with_reducible refine below_set ?_ ?_ _); rotate_left; (focus (first | (simp; done) | (simp; omega) | omega))) | with_reducible refine below_call ?_ (by assumption))))).mono ?_; rintro e1 w1 ⟨rfl, hb1⟩; have HB1 : Hid (Below w.heap.size w w1) := Lib.hid (by (repeat (first | with_reducible exact Below.refl _ _ | with_reducible refine below_alloc ?_ _ | with_reducible refine below_drewN ?_ _ | with_reducible refine Below.drew ?_ | ((with_reducible refine below_set ?_ ?_ _); rotate_left; (focus (first | (simp; done) | (simp; omega) | omega))) | with_reducible refine below_call ?_ (by assumption)))); obtain ⟨-, u0, u1, u2, u3⟩ := (cal_new w 27 nm A A' n n' c c' cw).call hb1; clear hb1) | fail)
    go_ret
    exact ⟨by rw [HV.out]; rfl, HB1.out⟩
  rw [v1] at cV
  have CV := Lib.hid cV
  have cC := fun (W : World) (hb : Below w.heap.size w W) => ValidCam_any L l e w.heap.size zs W (Ints.below HI.out hb) hl
  cases v2 : vCam zs
  · have HV := Lib.hid (ask_bad (zs := zs) (l := l) (show (vCal nm n n' ms rs cw && vCam zs) = false by rw [v1, v2]; rfl))
    rw [v2] at cC
    have CC := Lib.hid cC
    clear cV cC v1 v2
    go_enter Tryz.func35, Tryz.ntmps35
    go_wp2_with (first | (go_at_call 30; refine (CV.out _ (by (repeat (first | with_reducible exact Below.refl _ _ | with_reducible refine below_alloc ?_ _ | with_reducible refine below_drewN ?_ _ | with_reducible refine Below.drew ?_ | ((with_reducible refine below_set ?_ ?_ _); rotate_left; (focus (first | (simp; done) | (simp; omega) | omega))) | with_reducible refine below_call ?_ (by assumption))))).mono ?_; rintro e1 w1 ⟨rfl, hb1⟩; have HB1 : Hid (Below w.heap.size w w1) := Lib.hid (by (repeat (first | with_reducible exact Below.refl _ _ | with_reducible refine below_alloc ?_ _ | with_reducible refine below_drewN ?_ _ | with_reducible refine Below.drew ?_ | ((with_reducible refine below_set ?_ ?_ _); rotate_left; (focus (first | (simp; done) | (simp; omega) | omega))) | with_reducible refine below_call ?_ (by assumption)))); obtain ⟨-, u0, u1, u2, u3⟩ := (cal_new w 27 nm A A' n n' c c' cw).call hb1; clear hb1) | (go_at_call 42; refine (CC.out _ HB1.out).mono ?_; rintro e1 w2 ⟨rfl, rfl⟩) | fail)
    go_ret
    exact ⟨by rw [HV.out]; rfl, HB1.out⟩
  rw [v2] at cC
  have CC := Lib.hid cC
  obtain ⟨_, _, _, _, ⟨n1, n2⟩, _⟩ := vCal_yes v1
  have hv := ask_good (l := l) v1 v2
  have l1 := (vCam_yes v2).2.1
  rw [HI.out.len] at l1
  have cB := fun (W : World) => belongs_any nm A A' L n n' c c' l e cw W n1 (by omega) hl
  by_cases h : l % n = 0
  · rw [if_pos h] at hv
    have hq : ¬ (((l / n : Nat) : Int) = 0) := by
      have h1 := Nat.div_add_mod l n
      rw [h] at h1
      intro e0
      have e1 : l / n = 0 := Int.ofNat.inj e0
      rw [e1, Nat.mul_zero] at h1
      omega
    rw [belV_yes h] at cB
    generalize ((l / n : Nat) : Int) = q at *
    have hq2 : (q == 0) = false := by simpa using hq
    have CB := Lib.hid cB
    have HV := Lib.hid hv
    clear cV cC cB v1 v2 hv h
    go_enter Tryz.func35, Tryz.ntmps35
    go_wp2_with (first | (go_at_call 30; refine (CV.out _ (by (repeat (first | with_reducible exact Below.refl _ _ | with_reducible refine below_alloc ?_ _ | with_reducible refine below_drewN ?_ _ | with_reducible refine Below.drew ?_ | ((with_reducible refine below_set ?_ ?_ _); rotate_left; (focus (first | (simp; done) | (simp; omega) | omega))) | with_reducible refine below_call ?_ (by assumption))))).mono ?_; rintro e1 w1 ⟨rfl, hb1⟩; have HB1 : Hid (Below w.heap.size w w1) := Lib.hid (by (repeat (first | with_reducible exact Below.refl _ _ | with_reducible refine below_alloc ?_ _ | with_reducible refine below_drewN ?_ _ | with_reducible refine Below.drew ?_ | ((with_reducible refine below_set ?_ ?_ _); rotate_left; (focus (first | (simp; done) | (simp; omega) | omega))) | with_reducible refine below_call ?_ (by assumption)))); obtain ⟨-, u0, u1, u2, u3⟩ := (cal_new w 27 nm A A' n n' c c' cw).call hb1; clear hb1) | (go_at_call 42; refine (CC.out _ HB1.out).mono ?_; rintro e1 w2 ⟨rfl, rfl⟩) | (go_at_call 75; refine (CB.out _).mono ?_; rintro e1 w3 ⟨rfl, hb3⟩; have HB3 := Lib.hid (below_call HB1.out hb3); clear hb3) | fail)
    go_ret
    exact ⟨by rw [HV.out]; rfl, HB3.out⟩
  · rw [if_neg h] at hv
    rw [belV_no h] at cB
    have CB := Lib.hid cB
    have HV := Lib.hid hv
    clear cV cC cB v1 v2 hv h
    go_enter Tryz.func35, Tryz.ntmps35
    go_wp2_with (first | (go_at_call 30; refine (CV.out _ (by (repeat (first | with_reducible exact Below.refl _ _ | with_reducible refine below_alloc ?_ _ | with_reducible refine below_drewN ?_ _ | with_reducible refine Below.drew ?_ | ((with_reducible refine below_set ?_ ?_ _); rotate_left; (focus (first | (simp; done) | (simp; omega) | omega))) | with_reducible refine below_call ?_ (by assumption))))).mono ?_; rintro e1 w1 ⟨rfl, hb1⟩; have HB1 : Hid (Below w.heap.size w w1) := Lib.hid (by (repeat (first | with_reducible exact Below.refl _ _ | with_reducible refine below_alloc ?_ _ | with_reducible refine below_drewN ?_ _ | with_reducible refine Below.drew ?_ | ((with_reducible refine below_set ?_ ?_ _); rotate_left; (focus (first | (simp; done) | (simp; omega) | omega))) | with_reducible refine below_call ?_ (by assumption)))); obtain ⟨-, u0, u1, u2, u3⟩ := (cal_new w 27 nm A A' n n' c c' cw).call hb1; clear hb1) | (go_at_call 42; refine (CC.out _ HB1.out).mono ?_; rintro e1 w2 ⟨rfl, rfl⟩) | (go_at_call 75; refine (CB.out _).mono ?_; rintro e1 w3 ⟨rfl, hb3⟩; have HB3 := Lib.hid (below_call HB1.out hb3); clear hb3) | fail)
    go_ret
    exact ⟨by rw [HV.out]; rfl, HB3.out⟩
end Go.Proofs.YtmbdedkelckedaaGreatDoor

/- Rows of faults (structs of four numbers) of a call's own, and appends to them. No conditions but that a row stays below 2^30 elements. -/
namespace Go.Proofs.YtmbdedkelckedaaGreatDoor
open Go.RowKit
set_option linter.unusedVariables false
set_option linter.unusedSimpArgs false
/-- a fault of a cam -/
structure Flt where
  yr : Int
  mo : Int
  sh : Int
  ri : Int
def fT (f : Flt) : List Value := [.int .i64 f.yr, .int .i64 f.mo, .int .i64 f.sh, .int .i64 f.ri]
def f0 : Flt := ⟨0, 0, 0, 0⟩
def flatF (fs : List Flt) : List Value := fs.flatMap fT
theorem flatF_app (a b : List Flt) : flatF (a ++ b) = flatF a ++ flatF b := by simp [flatF]
theorem flatF_len : ∀ fs : List Flt, (flatF fs).length = 4 * fs.length
  | [] => rfl
  | f :: fs => by
    have : flatF (f :: fs) = fT f ++ flatF fs := by simp [flatF]
    rw [this, List.length_append, flatF_len fs]; simp [fT]; omega
theorem flatF_one (fs : List Flt) : ∀ u ∈ flatF fs, u.oneCell' = true := by
  intro u hu
  simp only [flatF, List.mem_flatMap] at hu
  obtain ⟨f, _, hf⟩ := hu
  simp [fT] at hf
  rcases hf with h | h | h | h <;> subst h <;> rfl
theorem flatF_at : ∀ (fs : List Flt) (k : Nat), k < fs.length → (flatF fs)[k * 4]? = some (.int .i64 (fs.getD k f0).yr) ∧ (flatF fs)[k * 4 + 1]? = some (.int .i64 (fs.getD k f0).mo) ∧ (flatF fs)[k * 4 + 2]? = some (.int .i64 (fs.getD k f0).sh) ∧ (flatF fs)[k * 4 + 3]? = some (.int .i64 (fs.getD k f0).ri)
  | [], k, h => by simp at h
  | e :: es, 0, _ => ⟨rfl, rfl, rfl, rfl⟩
  | e :: es, k + 1, h => by
    have ih := flatF_at es k (by simpa using h)
    have e1 : (k + 1) * 4 = k * 4 + 4 := by omega
    rw [e1]
    exact ih
def OwnF (w : World) (base : Nat) (A : Option Addr) (n c : Nat) (fs : List Flt) : Prop := w.ownsRow base 107 4 (.slice A n c) n (flatF fs)
section
variable {w w' : World} {base n c : Nat} {A : Option Addr} {fs : List Flt}
theorem OwnF.len (h : OwnF w base A n c fs) : fs.length = n := by have := h.1; rw [flatF_len] at this; omega
theorem OwnF.nil_ : OwnF w base none 0 0 [] := World.ownsRow_nil w base _ 4
theorem OwnF.call (h : OwnF w base A n c fs) (hb : Below w.heap.size w w') : OwnF w' base A n c fs := own_call h hb
theorem OwnF.low (h : OwnF w base A n c fs) {b0 : Nat} (hb : b0 ≤ base) : OwnF w b0 A n c fs := by
  refine ⟨h.1, ?_⟩
  rcases h.2 with h0 | ⟨g2, cap, cur, e2, hb2, hg, hr⟩
  · exact .inl h0
  · exact .inr ⟨g2, cap, cur, e2, by omega, hg, hr⟩
theorem OwnF.form (h : OwnF w base A n c fs) : (A = none ∧ n = 0 ∧ c = 0) ∨ ∃ g, A = some ⟨g, 0, none⟩ ∧ base ≤ g ∧ g < w.heap.size ∧ n ≤ c := by
  rcases h.2 with ⟨h0, h1⟩ | ⟨g2, cap, cur, e2, hb2, hg, hr⟩
  · injection h0 with e1 e2 e3
    exact .inl ⟨e1, h1, e3⟩
  · injection e2 with e3 e4 e5
    subst e3
    exact .inr ⟨g2, rfl, hb2, (Array.getElem?_eq_some_iff.1 hg).1, by rw [e5]; exact hr.1⟩
theorem ownF_append {v' : Value} {m : Nat} {gs : List Flt} (h : w.ownsRow base 107 4 v' (n + m) (flatF fs ++ flatF gs)) (hm : 1 ≤ m) : ∃ A' c', v' = .slice A' (n + m) c' ∧ OwnF w base A' (n + m) c' (fs ++ gs) := by
  rcases h.2 with ⟨_, h0⟩ | ⟨g, cap, cur, e, _⟩
  · omega
  · refine ⟨_, _, e, ?_⟩
    subst e
    unfold OwnF
    rw [flatF_app]; exact h
end
theorem info_fault : (Tryz.prog.info? 107).map (fun i => (i.zero, i.size, i.bytes)) = some (some (.agg #[.int .i64 0, .int .i64 0, .int .i64 0, .int .i64 0]), 4, 32) := by kernel_rfl
/-- append of m ≥ 1 faults that lie in a row -/
theorem wpList_appF {ops : Array Oper} {rest : List Oper} {o : Oper} {a : Act} {Q : Exit → Act → World → Prop} (hgd : o.guard = none) (s x : Operand)
    (ho : o.op = .call { callee := .builtin .append, args := #[s, x], argTypes := #[33, 33] })
    (w : World) (base : Nat) (A : Option Addr) (n c : Nat) (fs gs : List Flt) (hs : a.eval s = .slice A n c) (hown : OwnF w base A n c fs) (g m mc : Nat) (hx : a.eval x = .slice (some ⟨g, 0, none⟩) m mc) (hg : gs.length = m) (hm : 1 ≤ m)
    (hcell : ∀ j u, (flatF gs)[j]? = some u → w.cell? ⟨g, j, none⟩ = some u) (hn : n + m ≤ 1000000000) (hb : base ≤ w.heap.size)
    (h : ∀ A' c' w', OwnF w' base A' (n + m) c' (fs ++ gs) → Below base w w' → wpList Tryz.prog ops Q rest (a.put o.dst (.slice A' (n + m) c')) w') : wpList Tryz.prog ops Q (o :: rest) a w := by
  obtain ⟨i0, hi, hz0, hz1, hz2⟩ := info_parts info_fault
  refine wpList_append_own_at (P := Tryz.prog) w hgd s x 33 ho base 107 i0 (.agg #[.int .i64 0, .int .i64 0, .int .i64 0, .int .i64 0]) 4 32 Tryz.underlying33 hi hz0 hz1 hz2 rfl (by omega) (.slice A n c) n (flatF fs) hs hown ⟨g, 0, none⟩ m mc (flatF gs) hx (by rw [flatF_len]; omega)
    (fun j u hj => ?_) (flatF_one gs) (by simp only [maxLen]; omega) (by omega) hb (fun v' w' h1 h2 _ _ => ?_)
  · have := hcell j u hj
    have e : (⟨g, 0, none⟩ : Addr).add j = ⟨g, j, none⟩ := by unfold Addr.add; split <;> simp_all
    rw [e]; exact this
  · obtain ⟨A', c', rfl, h3⟩ := ownF_append h1 hm
    refine h A' c' w' h3 ((Below.refl base w).grown h2 hb (fun k hk => ?_))
    rcases hown.form with ⟨rfl, _⟩ | ⟨g', rfl, hg', _⟩
    · simp [Value.ownBlock] at hk
    · simp [Value.ownBlock] at hk; omega
/-- append of any row of faults of the call's own -/
theorem wpList_appFs {ops : Array Oper} {rest : List Oper} {o : Oper} {a : Act} {Q : Exit → Act → World → Prop} (hgd : o.guard = none) (s x : Operand)
    (ho : o.op = .call { callee := .builtin .append, args := #[s, x], argTypes := #[33, 33] })
    (w : World) (base base' : Nat) (A X : Option Addr) (n c m mc : Nat) (fs gs : List Flt) (hs : a.eval s = .slice A n c) (hown : OwnF w base A n c fs) (hx : a.eval x = .slice X m mc) (hy : OwnF w base' X m mc gs)
    (hn : n + m ≤ 1000000000) (hb : base ≤ w.heap.size)
    (h : ∀ A' c' w', OwnF w' base A' (n + m) c' (fs ++ gs) → Below base w w' → wpList Tryz.prog ops Q rest (a.put o.dst (.slice A' (n + m) c')) w') : wpList Tryz.prog ops Q (o :: rest) a w := by
  obtain ⟨i0, hi, hz0, hz1, hz2⟩ := info_parts info_fault
  by_cases hm : m = 0
  · subst hm
    have hys : gs = [] := List.length_eq_zero_iff.mp hy.len
    subst hys
    have hle : n ≤ c := by rcases hown.form with ⟨_, h1, _⟩ | ⟨_, _, _, _, h1⟩ <;> omega
    refine wpList_plain hgd fun K hK => ?_
    have hr : (Builtin.append_ #[33, 33] o.type #[.slice A n c, .slice X 0 mc]).run Tryz.prog w = .ok (.slice A n c) w := by
      cases X with
      | none => exact run_append_nothing w 33 33 o.type 107 i0 Tryz.underlying33 hi A n c hle _ (_root_.Go.Src.ofNil (P := Tryz.prog) w Tryz.underlying33 mc)
      | some ad => exact run_append_nothing w 33 33 o.type 107 i0 Tryz.underlying33 hi A n c hle _ (_root_.Go.Src.ofSlice (P := Tryz.prog) w Tryz.underlying33 ad 0 mc [] (by simp) (fun j u hj => by simp at hj) (fun u hu => by simp at hu))
    unfold Oper.wp execOp
    simp only [ho, resolve, invoke, builtin, Sem.run_bind, Sem.run_pure, Result.andThen_ok, List.map_toArray, List.map_cons, List.map_nil, hs, hx, hr]
    exact hK _ _ (h A c w (by simpa using hown) (Below.refl _ _))
  · rcases hy.form with ⟨_, h1, _⟩ | ⟨g, rfl, _, _, _⟩
    · omega
    · refine wpList_appF hgd s x ho w base A n c fs gs hs hown g m mc hx hy.len (by omega) (fun j u hj => ?_) hn hb h
      have hjl : j < (flatF gs).length := (List.getElem?_eq_some_iff.1 hj).1
      rw [flatF_len, hy.len] at hjl
      rw [World.ownsRow.cellAt hy j (by omega)]; exact hj
end Go.Proofs.YtmbdedkelckedaaGreatDoor

/- The program's faultsOf: the faults of a year. No conditions but those of a calendar and a cam that belong to one another. -/
namespace Go.Proofs.YtmbdedkelckedaaGreatDoor
open Go.RowKit
set_option linter.unusedVariables false
set_option linter.unusedSimpArgs false
/-- the place of a year's first month on a cam -/
def placeY (l n y : Nat) : Nat := y % (l / n) * n
/-- the faults of the first k months of a year -/
def fY (ms : List Mth) (rs : List Rul) (n' : Nat) (zs : List Int) (p y : Nat) : Nat → List Flt
  | 0 => []
  | k + 1 => if zs.getD (p + k) 0 = dayK ms rs n' (y : Int) ((k : Int) + 1) then fY ms rs n' zs p y k else fY ms rs n' zs p y k ++ [⟨(y : Int), (k : Int) + 1, zs.getD (p + k) 0, dayK ms rs n' (y : Int) ((k : Int) + 1)⟩]
theorem fY_same {ms : List Mth} {rs : List Rul} {n' : Nat} {zs : List Int} {p y k : Nat} (h : zs.getD (p + k) 0 = dayK ms rs n' (y : Int) ((k : Int) + 1)) : fY ms rs n' zs p y (k + 1) = fY ms rs n' zs p y k := by rw [fY, if_pos h]
theorem fY_more {ms : List Mth} {rs : List Rul} {n' : Nat} {zs : List Int} {p y k : Nat} (h : ¬ (zs.getD (p + k) 0 = dayK ms rs n' (y : Int) ((k : Int) + 1))) : fY ms rs n' zs p y (k + 1) = fY ms rs n' zs p y k ++ [⟨(y : Int), (k : Int) + 1, zs.getD (p + k) 0, dayK ms rs n' (y : Int) ((k : Int) + 1)⟩] := by rw [fY, if_neg h]
theorem fY_len (ms : List Mth) (rs : List Rul) (n' : Nat) (zs : List Int) (p y : Nat) : ∀ k, (fY ms rs n' zs p y k).length ≤ k
  | 0 => Nat.le_refl _
  | k + 1 => by
    have ih := fY_len ms rs n' zs p y k
    by_cases h : zs.getD (p + k) 0 = dayK ms rs n' (y : Int) ((k : Int) + 1)
    · rw [fY_same h]; omega
    · rw [fY_more h, List.length_append]; simp; omega
theorem place_bd {l n y : Nat} (h0 : l % n = 0) (hl : 1 ≤ l) (hn : 1 ≤ n) : 1 ≤ l / n ∧ y % (l / n) < l / n ∧ placeY l n y + n ≤ l := by
  have h1 := Nat.div_add_mod l n
  rw [h0, Nat.add_zero] at h1
  have h2 : 1 ≤ l / n := by
    rcases Nat.eq_zero_or_pos (l / n) with h | h
    · rw [h, Nat.mul_zero] at h1; omega
    · exact h
  have h3 : y % (l / n) < l / n := Nat.mod_lt _ h2
  refine ⟨h2, h3, ?_⟩
  unfold placeY
  have h4 : (y % (l / n) + 1) * n ≤ l / n * n := Nat.mul_le_mul_right n h3
  rw [Nat.add_mul, Nat.one_mul, Nat.mul_comm (l / n) n, h1] at h4
  exact h4
theorem alb' (w : World) (o : Obj) : Below w.heap.size w (w.alloc o) := (Below.refl _ _).alloc (Nat.le_refl _) o
/-- a call gives a new row of faults -/
def NewFlt (w : World) (fs : List Flt) (e : Ending) (w' : World) : Prop := ∃ A m c, e = .returned (.slice A m c) ∧ OwnF w' w.heap.size A m c fs ∧ Below w.heap.size w w'
set_option maxHeartbeats 4000000 in
theorem faultsOf_any (nm : ByteArray) (A A' L : Option Addr) (n n' c c' l e B : Nat) (ms : List Mth) (rs : List Rul) (cw : Int) (zs : List Int) (y : Nat) (w : World) (h : Months w B A n ms) (h' : Rules w B A' n' rs) (hI : Ints w B L l zs) (hB : B ≤ w.heap.size) (hn1 : 1 ≤ n) (hn : n ≤ 20) (hn' : n' ≤ 1048576) (hl1 : 1 ≤ l) (hl : l ≤ 260) (hle : l ≤ e) (he : e ≤ 9223372036854775807) (k3 : l % n = 0) (hev : ∀ j, j < n' → 1 ≤ (rs.getD j r0).ev) (hy : y ≤ 1000000000) :
    Calls Tryz.prog 36 #[.agg #[.string nm, .slice A n c, .slice A' n' c', .int .i64 cw], .slice L l e, .int .i64 (y : Int)] w (NewFlt w (fY ms rs n' zs (placeY l n y) y n)) := by
  have H := Lib.hid (Tri.more h hB)
  have H' := Lib.hid (Tri.more h' hB)
  have HI := Lib.hid (hI.more hB)
  have HC0 := Lib.hid (cal_new w 27 nm A A' n n' c c' cw)
  obtain ⟨bl, offl, rfl, hbl, hcl⟩ := hI.2 (by omega)
  obtain ⟨q1, q2, q3⟩ := place_bd (y := y) k3 hl1 hn1
  have cL := fun (W : World) (hb : Below w.heap.size w W) => isLeap_any nm A A' n n' c c' w.heap.size rs cw (y : Int) W (Tri.below H'.out hb) hb.size (by omega) hev (by omega) (by omega)
  have cB := fun (W : World) => belongs_any nm A A' (some ⟨bl, offl, none⟩) n n' c c' l e cw W hn1 (by omega) (by omega)
  rw [belV_yes k3] at cB
  have cD := fun (W : World) (hb : Below w.heap.size w W) (k : Nat) (hk : k < n) => daysOfMonth_any nm A A' n n' c c' w.heap.size ms cw (leapK rs (y : Int) n') ((k : Int) + 1) W (Tri.below H.out hb) hb.size (by omega) (by omega) (by omega)
  have hdy : ∀ k : Nat, dayB ms (leapK rs (y : Int) n') ((k : Int) + 1) = dayK ms rs n' (y : Int) ((k : Int) + 1) := fun k => rfl
  have hT1 : (y : Int).tmod ((l / n : Nat) : Int) = ((y % (l / n) : Nat) : Int) := nat_tmod y (l / n)
  have hP : ((y % (l / n) : Nat) : Int) * (n : Int) = ((placeY l n y : Nat) : Int) := by unfold placeY; push_cast; rfl
  have hqz : l / n ≤ l := Nat.div_le_self l n
  generalize placeY l n y = P at *
  generalize hR : y % (l / n) = R at *
  generalize l / n = Q at *
  generalize leapK rs (y : Int) n' = LP at *
  have CL := Lib.hid cL
  have CB := Lib.hid cB
  have CD := Lib.hid cD
  have HDY := Lib.hid hdy
  have s0 : ¬ ((Q : Int) = 0) := by omega
  have s1 : ((Q : Int) == 0) = false := by rw [beq_eq_false_iff_ne]; omega
  have s2 : IntKind.i64.wrap (R : Int) = (R : Int) := IntWalk.i64_in _ (by omega)
  have s3 : IntKind.i64.wrap (P : Int) = (P : Int) := IntWalk.i64_in _ (by omega)
  have s4 : (P : Int) ≤ (e : Int) := by omega
  have s5 : (0 : Int) ≤ (P : Int) := by omega
  have s6 : ¬ (e = P) := by omega
  have s7 : (P : Int) ≤ (l : Int) := by omega
  clear h h' hI hev cL cB cD hdy hR hcl
  go_enter Tryz.func36, Tryz.ntmps36
  go_wp2_with (first | (go_at_call 33; refine (CL.out _ (by (repeat (first | with_reducible exact Below.refl _ _ | with_reducible refine below_alloc ?_ _ | with_reducible refine below_drewN ?_ _ | with_reducible refine Below.drew ?_ | ((with_reducible refine below_set ?_ ?_ _); rotate_left; (focus (first | (simp; done) | (simp; omega) | omega))) | with_reducible refine below_call ?_ (by assumption))))).mono ?_; rintro e1 w1 ⟨rfl, hb1⟩; have KC := HC0.out.call hb1; have HB1 : Hid (Below w.heap.size w w1) := Lib.hid (by (repeat (first | with_reducible exact Below.refl _ _ | with_reducible refine below_alloc ?_ _ | with_reducible refine below_drewN ?_ _ | with_reducible refine Below.drew ?_ | ((with_reducible refine below_set ?_ ?_ _); rotate_left; (focus (first | (simp; done) | (simp; omega) | omega))) | with_reducible refine below_call ?_ (by assumption)))); obtain ⟨zc, u0, u1, u2, u3⟩ := KC; clear hb1) | (go_at_call 75; refine (CB.out _).mono ?_; rintro e1 w2 ⟨rfl, hb2⟩; have KC2 := Lib.hid (CalAt.call ⟨zc, u0, u1, u2, u3⟩ hb2); have HB2 : Hid (Below w.heap.size w w2) := Lib.hid (below_call HB1.out hb2); clear hb2) | fail)
  have HB3 : Hid (Below w.heap.size w w2) := HB2
  go_loopw [7, 11, 12] (fun a t _ wr => ∃ (k m cc : Nat) (X : Option Addr), t = .int .i64 ((k + 1 : Nat) : Int) ∧ k ≤ n ∧ a = .slice X m cc ∧ m ≤ k ∧ Hid (OwnF wr (w.heap.size + 1) X m cc (fY ms rs n' zs P y k)) ∧ Hid (CalAt wr w.heap.size nm A A' n n' c c' cw) ∧ Hid (Below w.heap.size w wr)) (fun _ t _ _ => n + 1 - (intOf t).toNat)
  case atStart => exact ⟨0, 0, 0, none, rfl, Nat.zero_le _, rfl, Nat.le_refl _, Lib.hid OwnF.nil_, KC2, HB2⟩
  case round =>
    obtain ⟨k, m, cc, X, rfl, hk, rfl, hmk, HO, HC, HB⟩ := hrel
    clear zc u0 u1 u2 u3 HB3 HB2 KC2
    obtain ⟨zc, u0, u1, u2, u3⟩ := HC.out
    have hsz := HB.out.size
    have i0 : (0 : Int) ≤ (k : Int) := Int.natCast_nonneg _
    by_cases hlt : k < n
    · have i1 : (k : Int) + 1 ≤ (n : Int) := by omega
      have i2 : (k : Int) < ((l - P : Nat) : Int) := by omega
      obtain ⟨b0, o0, e0, hbz, hcz⟩ := (Ints.below HI.out HB.out).at_ (k := P + k) (by omega)
      injection e0 with e0
      injection e0 with e0 e1
      subst e0 e1
      rw [← Nat.add_assoc] at hcz
      have hf1 := @fY_same ms rs n' zs P y k
      have hf2 := @fY_more ms rs n' zs P y k
      have hdk := HDY.out k
      have cd := fun (W : World) (hb : Below w.heap.size w W) => CD.out W hb k hlt
      rw [hdk] at cd
      generalize zs.getD (P + k) 0 = x at *
      generalize dayK ms rs n' (y : Int) ((k : Int) + 1) = D at *
      have C2 := Lib.hid cd
      by_cases hx : x = D
      · have HF := Lib.hid (hf1 hx)
        subst hx
        clear hf1 hf2 cd hdk
        go_wp2_with (first | (go_at_call 34; refine (C2.out _ HB.out).mono ?_; rintro e1 w3 ⟨rfl, hb3⟩; have hc3 := cell_call hb3 (by show bl < _; omega) hcz; have HB3 := Lib.hid (below_call HB.out hb3); have HO3 := Lib.hid (HO.out.call hb3); have HC3 := Lib.hid (HC.out.call hb3); clear hb3) | fail)
        go_roundw
        case rel => exact ⟨k + 1, m, cc, X, by go_num, by omega, rfl, by omega, Lib.hid (by rw [HF.out]; exact HO3.out), HC3, HB3⟩
        case measure => simp [intOf]; omega
      · have HF := Lib.hid (hf2 hx)
        have hx2 : (x != D) = true := by simpa using hx
        clear hf1 hf2 cd hdk
        go_wp2_with (first | (go_at_call 34; refine (C2.out _ HB.out).mono ?_; rintro e1 w3 ⟨rfl, hb3⟩; have hc3 := cell_call hb3 (by show bl < _; omega) hcz; have HB3 := Lib.hid (below_call HB.out hb3); have HO3 := Lib.hid (HO.out.call hb3); have HC3 := Lib.hid (HC.out.call hb3); have hs3 := HB3.out.size; clear hb3) | (at_builtin; refine wpList_appF rfl _ _ rfl _ (w.heap.size + 1) X m cc _ [⟨(y : Int), (k : Int) + 1, x, D⟩] rfl (HO3.out.call (alb' _ _)) _ 1 1 rfl rfl (Nat.le_refl _) (by intro j u hj; match j, hj with | 0, hj => (simp [flatF, fT] at hj; subst hj; simp [go_sem]) | 1, hj => (simp [flatF, fT] at hj; subst hj; simp [go_sem]) | 2, hj => (simp [flatF, fT] at hj; subst hj; simp [go_sem]) | 3, hj => (simp [flatF, fT] at hj; subst hj; simp [go_sem])) (by omega) (by simp; first | omega | (have := HC3.out.lt; omega)) ?_; intro A2 c2 w4 ho4 hb4; have HO4 := Lib.hid ho4; have HB4 := Lib.hid ((HB3.out.alloc hs3 _).trans (hb4.mono (by omega))); have HC4 := Lib.hid ((HC3.out.call (alb' _ _)).below (by omega) hb4); clear ho4 hb4) | fail)
        go_roundw
        case rel => exact ⟨k + 1, m + 1, c2, A2, by go_num, by omega, rfl, by omega, Lib.hid (by rw [HF.out]; exact HO4.out), HC4, HB4⟩
        case measure => simp [intOf]; omega
    · have hE : k = n := by omega
      have HE := Lib.hid hE
      go_wp2
      go_ret
      exact ⟨X, m, cc, rfl, by rw [← HE.out]; exact HO.out.low (by omega), HB.out⟩
end Go.Proofs.YtmbdedkelckedaaGreatDoor

/- The program's CamFaults: the faults of some years. No conditions but that there are at most 2^20 months, rules and levels. -/
namespace Go.Proofs.YtmbdedkelckedaaGreatDoor
open Go.RowKit
set_option linter.unusedVariables false
set_option linter.unusedSimpArgs false
/-- the faults of j years from year f on -/
def allF (ms : List Mth) (rs : List Rul) (n n' : Nat) (zs : List Int) (l f : Nat) : Nat → List Flt
  | 0 => []
  | j + 1 => allF ms rs n n' zs l f j ++ fY ms rs n' zs (placeY l n (f + j)) (f + j) n
theorem allF_mono (ms : List Mth) (rs : List Rul) (n n' : Nat) (zs : List Int) (l f j : Nat) : ∀ d, (allF ms rs n n' zs l f j).length ≤ (allF ms rs n n' zs l f (j + d)).length
  | 0 => Nat.le_refl _
  | d + 1 => by
    have ih := allF_mono ms rs n n' zs l f j d
    show _ ≤ (allF ms rs n n' zs l f (j + d) ++ fY ms rs n' zs (placeY l n (f + (j + d))) (f + (j + d)) n).length
    rw [List.length_append]; omega
def rCF (nm : ByteArray) (n n' : Nat) (ms : List Mth) (rs : List Rul) (cw : Int) (zs : List Int) (l : Nat) (f t : Int) : List Flt × Int :=
  if askV nm n n' ms rs cw zs l = 0 then
    if inB f 0 9999 && (inB t 0 9999 && decide (f ≤ t)) then
      if 40 < (allF ms rs n n' zs l f.toNat (t.toNat + 1 - f.toNat)).length then ([], 5) else (allF ms rs n n' zs l f.toNat (t.toNat + 1 - f.toNat), 0)
    else ([], 2)
  else ([], askV nm n n' ms rs cw zs l)
section
variable {nm : ByteArray} {n n' : Nat} {ms : List Mth} {rs : List Rul} {cw : Int} {zs : List Int} {l : Nat} {f t : Int}
theorem rCF_bad {v : Int} (h : askV nm n n' ms rs cw zs l = v) (h0 : v ≠ 0) : rCF nm n n' ms rs cw zs l f t = ([], v) := by rw [rCF, h, if_neg h0]
theorem rCF_far (h : askV nm n n' ms rs cw zs l = 0) (h2 : (inB f 0 9999 && (inB t 0 9999 && decide (f ≤ t))) = false) : rCF nm n n' ms rs cw zs l f t = ([], 2) := by rw [rCF, h, if_pos rfl, h2]; rfl
theorem rCF_full {F N : Nat} (h : askV nm n n' ms rs cw zs l = 0) (h2 : (inB (F : Int) 0 9999 && (inB ((F + N : Nat) : Int) 0 9999 && decide ((F : Int) ≤ ((F + N : Nat) : Int)))) = true) (h3 : 40 < (allF ms rs n n' zs l F (N + 1)).length) : rCF nm n n' ms rs cw zs l (F : Int) ((F + N : Nat) : Int) = ([], 5) := by
  rw [rCF, h, if_pos rfl, h2, if_pos rfl, Int.toNat_natCast, Int.toNat_natCast, show F + N + 1 - F = N + 1 by omega, if_pos h3]
theorem rCF_ok {F N : Nat} (h : askV nm n n' ms rs cw zs l = 0) (h2 : (inB (F : Int) 0 9999 && (inB ((F + N : Nat) : Int) 0 9999 && decide ((F : Int) ≤ ((F + N : Nat) : Int)))) = true) (h3 : ¬ (40 < (allF ms rs n n' zs l F (N + 1)).length)) : rCF nm n n' ms rs cw zs l (F : Int) ((F + N : Nat) : Int) = (allF ms rs n n' zs l F (N + 1), 0) := by
  rw [rCF, h, if_pos rfl, h2, if_pos rfl, Int.toNat_natCast, Int.toNat_natCast, show F + N + 1 - F = N + 1 by omega, if_neg h3]
theorem rCF_len : (rCF nm n n' ms rs cw zs l f t).1.length ≤ 40 := by
  unfold rCF
  split
  · split
    · split
      · simp
      · rename_i h; show (allF ms rs n n' zs l f.toNat (t.toNat + 1 - f.toNat)).length ≤ 40; omega
    · simp
  · simp
end
/-- a call gives a new row of faults and a code -/
def NewFC (w : World) (R : List Flt × Int) (e : Ending) (w' : World) : Prop := ∃ A m c, e = .returned (.tuple #[.slice A m c, .int .i64 R.2]) ∧ OwnF w' w.heap.size A m c R.1 ∧ Below w.heap.size w w'
theorem newFC_bad {w w' : World} {v : Int} (h : Below w.heap.size w w') : NewFC w ([], v) (.returned (.tuple #[.slice none 0 0, .int .i64 v])) w' := ⟨none, 0, 0, rfl, OwnF.nil_, h⟩
set_option maxHeartbeats 4000000 in
theorem CamFaults_any (nm : ByteArray) (A A' L : Option Addr) (n n' c c' l e B : Nat) (ms : List Mth) (rs : List Rul) (cw : Int) (zs : List Int) (f t : Int) (w : World) (h : Months w B A n ms) (h' : Rules w B A' n' rs) (hI : Ints w B L l zs) (hB : B ≤ w.heap.size) (hn : n ≤ c) (hc : c ≤ 9223372036854775807) (hn' : n' ≤ 1048576) (hl : l ≤ 1048576) (hle : l ≤ e) (he : e ≤ 9223372036854775807) :
    Calls Tryz.prog 8 #[.agg #[.string nm, .slice A n c, .slice A' n' c', .int .i64 cw], .slice L l e, .int .i64 f, .int .i64 t] w (NewFC w (rCF nm n n' ms rs cw zs l f t)) := by
  have H := Lib.hid (Tri.more h hB)
  have H' := Lib.hid (Tri.more h' hB)
  have HI := Lib.hid (hI.more hB)
  have HC0 := Lib.hid (cal_new w 27 nm A A' n n' c c' cw)
  have BA := Lib.hid (alb' w (.cells #[.string nm, .slice A n c, .slice A' n' c', .int .i64 cw] 27))
  clear h h' hI
  have cA := fun (W : World) (hb : Below w.heap.size w W) => askedCam_any nm A A' L n n' c c' l e w.heap.size ms rs cw zs W (Tri.below H.out hb) (Tri.below H'.out hb) (Ints.below HI.out hb) hb.size hn hc hn' hl
  obtain ⟨v, hv⟩ : ∃ v, askV nm n n' ms rs cw zs l = v := ⟨_, rfl⟩
  rw [hv] at cA
  have CA := Lib.hid cA
  clear cA
  by_cases h0 : v = 0
  · subst h0
    obtain ⟨k1, k2, k3⟩ := ask_yes hv
    cases v1 : inB f 0 9999
    · rw [rCF_far hv (by rw [v1]; rfl)]
      have Y1 := Lib.hid v1
      clear hv k1 k2 k3 v1
      go_enter Tryz.func8, Tryz.ntmps8
      go_wp2_with fail
      go_at_call 35
      refine (CA.out _ BA.out).mono ?_
      rintro e1 w1 ⟨rfl, hb1⟩
      have KC := Lib.hid (HC0.out.call hb1)
      have HB := Lib.hid (BA.out.trans (hb1.mono BA.out.size))
      clear hb1
      go_wp2_with (first | (go_at_call 32; refine (isYear_val _ _ _ Y1.out).mono ?_; rintro e1 w' ⟨rfl, rfl⟩) | fail)
      go_ret2
      exact newFC_bad HB.out
    cases v2 : inB t 0 9999
    · rw [rCF_far hv (by rw [v1, v2]; rfl)]
      have Y1 := Lib.hid v1
      have Y2 := Lib.hid v2
      clear hv k1 k2 k3 v1 v2
      go_enter Tryz.func8, Tryz.ntmps8
      go_wp2_with fail
      go_at_call 35
      refine (CA.out _ BA.out).mono ?_
      rintro e1 w1 ⟨rfl, hb1⟩
      have KC := Lib.hid (HC0.out.call hb1)
      have HB := Lib.hid (BA.out.trans (hb1.mono BA.out.size))
      clear hb1
      go_wp2_with (first | (go_at_call 32; refine (isYear_val _ _ _ (by first | exact Y1.out | exact Y2.out)).mono ?_; rintro e1 w' ⟨rfl, rfl⟩) | fail)
      go_ret2
      exact newFC_bad HB.out
    have y1 := inB_yes v1
    have y2 := inB_yes v2
    have Y1 := Lib.hid v1
    have Y2 := Lib.hid v2
    by_cases v3 : f ≤ t
    · obtain ⟨F, rfl⟩ := Int.eq_ofNat_of_zero_le y1.1
      obtain ⟨T, rfl⟩ := Int.eq_ofNat_of_zero_le y2.1
      obtain ⟨N, rfl⟩ : ∃ N, T = F + N := ⟨T - F, by omega⟩
      have V := Lib.hid (show (inB (F : Int) 0 9999 && (inB ((F + N : Nat) : Int) 0 9999 && decide ((F : Int) ≤ ((F + N : Nat) : Int)))) = true by rw [v1, v2, decide_eq_true v3]; rfl)
      have HV := Lib.hid hv
      obtain ⟨z1, z2, z3⟩ := vCam_yes k2
      rw [HI.out.len] at z2 z3
      obtain ⟨-, -, -, -, ⟨n1, n2⟩, -, -⟩ := vCal_yes k1
      have CF := Lib.hid (fun (W : World) (hb : Below w.heap.size w W) (y : Nat) (hy : y ≤ 1000000000) => faultsOf_any nm A A' L n n' c c' l e w.heap.size ms rs cw zs y W (Tri.below H.out hb) (Tri.below H'.out hb) (Ints.below HI.out hb) hb.size n1 n2 hn' z2 z3 hle he k3 (vCal_ev k1) hy)
      have hTN : (F + N : Nat) ≤ 9999 := by omega
      clear hv k1 k2 k3 v1 v2 z1
      go_enter Tryz.func8, Tryz.ntmps8
      go_wp2_with fail
      go_at_call 35
      refine (CA.out _ BA.out).mono ?_
      rintro e1 w1 ⟨rfl, hb1⟩
      have KC := Lib.hid (HC0.out.call hb1)
      have HB := Lib.hid (BA.out.trans (hb1.mono BA.out.size))
      clear hb1
      go_wp2_with (first | (go_at_call 32; refine (isYear_val _ _ _ (by first | exact Y1.out | exact Y2.out)).mono ?_; rintro e1 w' ⟨rfl, rfl⟩) | fail)
      go_loopw [11, 12] (fun a t wr => ∃ (j m cc : Nat) (X : Option Addr), t = .int .i64 ((F + j : Nat) : Int) ∧ j ≤ N + 1 ∧ a = .slice X m cc ∧ m ≤ 40 ∧ Hid (OwnF wr (w.heap.size + 1) X m cc (allF ms rs n n' zs l F j)) ∧ Hid (CalAt wr w.heap.size nm A A' n n' c c' cw) ∧ Hid (Below w.heap.size w wr)) (fun _ t _ => F + N + 1 - (intOf t).toNat)
      case atStart => exact ⟨0, 0, 0, none, rfl, Nat.zero_le _, rfl, by omega, Lib.hid OwnF.nil_, KC, HB⟩
      case round =>
        clear KC HB
        obtain ⟨j, m, cc, X, rfl, hj, rfl, hm, HO, HC, HB⟩ := hrel
        obtain ⟨zc, u0, u1, u2, u3⟩ := HC.out
        by_cases hlt : j ≤ N
        · have i1 : ((F + j : Nat) : Int) ≤ ((F + N : Nat) : Int) := by omega
          have hst : allF ms rs n n' zs l F (j + 1) = allF ms rs n n' zs l F j ++ fY ms rs n' zs (placeY l n (F + j)) (F + j) n := rfl
          have hfl := fY_len ms rs n' zs (placeY l n (F + j)) (F + j) n
          have hmo := allF_mono ms rs n n' zs l F (j + 1) (N - j)
          rw [show j + 1 + (N - j) = N + 1 by omega] at hmo
          have hln := HO.out.len
          have cf := fun (W : World) (hb : Below w.heap.size w W) => CF.out W hb (F + j) (by omega)
          generalize fY ms rs n' zs (placeY l n (F + j)) (F + j) n = G at *
          have CF2 := Lib.hid cf
          have HST := Lib.hid hst
          have HMO := Lib.hid hmo
          have HLN := Lib.hid hln
          have HFL := Lib.hid hfl
          clear cf hst hmo hln hfl
          go_wp2_with fail
          go_at_call 36
          refine (CF2.out _ HB.out).mono ?_
          rintro e1 w3 ⟨X2, m2, c2, rfl, ho3, hb3⟩
          have HO3 := Lib.hid ho3
          have HO' := Lib.hid (HO.out.call hb3)
          have HC' := Lib.hid (HC.out.call hb3)
          have HB' := Lib.hid (below_call HB.out hb3)
          have hm2 : m2 ≤ n := by have := HFL.out; have := HO3.out.len; omega
          have zz := HC'.out.lt
          clear ho3 hb3 zc u0 u1 u2 u3
          by_cases hfull : 40 < m + m2
          · have hf2 : (40 : Int) < (m : Int) + (m2 : Int) := by omega
            have hf3 : (40 : Int) < ((m + m2 : Nat) : Int) := by omega
            go_wp2_with (first | (at_builtin; refine wpList_appFs rfl _ _ rfl _ (w.heap.size + 1) _ X X2 m cc m2 c2 _ _ rfl HO'.out rfl HO3.out (by omega) (by omega) ?_; intro A2 c4 w4 ho4 hb4; have HO4 := Lib.hid ho4; have HB4 := Lib.hid (HB'.out.trans (hb4.mono (by omega))); have HC4 := Lib.hid (HC'.out.below (by omega) hb4); clear ho4 hb4) | fail)
            have HR := Lib.hid (rCF_full HV.out V.out (by have h1 := HMO.out; have h2 := HO4.out.len; rw [HST.out] at h1; omega))
            go_ret2
            rw [HR.out]
            exact newFC_bad HB4.out
          · have hf2 : ¬ ((40 : Int) < (m : Int) + (m2 : Int)) := by omega
            have hf3 : ¬ ((40 : Int) < ((m + m2 : Nat) : Int)) := by omega
            go_wp2_with (first | (at_builtin; refine wpList_appFs rfl _ _ rfl _ (w.heap.size + 1) _ X X2 m cc m2 c2 _ _ rfl HO'.out rfl HO3.out (by omega) (by omega) ?_; intro A2 c4 w4 ho4 hb4; have HO4 := Lib.hid ho4; have HB4 := Lib.hid (HB'.out.trans (hb4.mono (by omega))); have HC4 := Lib.hid (HC'.out.below (by omega) hb4); clear ho4 hb4) | fail)
            go_roundw
            case rel => exact ⟨j + 1, m + m2, c4, A2, by go_num, by omega, rfl, by omega, Lib.hid (by rw [HST.out]; exact HO4.out), HC4, HB4⟩
            case measure => simp [intOf]; omega
        · have i1 : ¬ (((F + j : Nat) : Int) ≤ ((F + N : Nat) : Int)) := by omega
          have hE : j = N + 1 := by omega
          have HR := Lib.hid (show rCF nm n n' ms rs cw zs l (F : Int) ((F : Int) + (N : Int)) = (allF ms rs n n' zs l F (N + 1), 0) by have h0 := rCF_ok HV.out V.out (by have h2 := HO.out.len; rw [hE] at h2; omega); push_cast at h0; exact h0)
          have HE := Lib.hid hE
          clear hE
          go_wp2
          go_ret2
          rw [HR.out]
          exact ⟨X, m, cc, rfl, by rw [← HE.out]; exact HO.out.low (by omega), HB.out⟩
    · rw [rCF_far hv (by rw [v1, v2, decide_eq_false v3]; rfl)]
      have v4 : t < f := by omega
      clear hv k1 k2 k3 v1 v2
      go_enter Tryz.func8, Tryz.ntmps8
      go_wp2_with fail
      go_at_call 35
      refine (CA.out _ BA.out).mono ?_
      rintro e1 w1 ⟨rfl, hb1⟩
      have KC := Lib.hid (HC0.out.call hb1)
      have HB := Lib.hid (BA.out.trans (hb1.mono BA.out.size))
      clear hb1
      go_wp2_with (first | (go_at_call 32; refine (isYear_val _ _ _ (by first | exact Y1.out | exact Y2.out)).mono ?_; rintro e1 w' ⟨rfl, rfl⟩) | fail)
      go_ret2
      exact newFC_bad HB.out
  · rw [rCF_bad hv h0]
    have e0 : (v != 0) = true := by simpa using h0
    clear hv
    go_enter Tryz.func8, Tryz.ntmps8
    go_wp2_with fail
    go_at_call 35
    refine (CA.out _ BA.out).mono ?_
    rintro e1 w1 ⟨rfl, hb1⟩
    have KC := Lib.hid (HC0.out.call hb1)
    have HB := Lib.hid (BA.out.trans (hb1.mono BA.out.size))
    clear hb1
    go_wp2
    go_ret2
    exact newFC_bad HB.out
end Go.Proofs.YtmbdedkelckedaaGreatDoor

/- Plain facts on the years that a notch stands for, and on the years in which a cam and a calendar end together. No conditions. -/
namespace Go.Proofs.YtmbdedkelckedaaGreatDoor
set_option linter.unusedVariables false
set_option linter.unusedSimpArgs false
/-- how many of the first Y years that lie at place p of s are such -/
def cnt (f : Nat → Bool) (s p : Nat) : Nat → Nat
  | 0 => 0
  | Y + 1 => if Y % s = p ∧ f Y = true then cnt f s p Y + 1 else cnt f s p Y
section
variable {f : Nat → Bool} {s p Y : Nat}
theorem cnt_hit (h : Y % s = p) (hf : f Y = true) : cnt f s p (Y + 1) = cnt f s p Y + 1 := by rw [cnt, if_pos ⟨h, hf⟩]
theorem cnt_off (h : ¬ (Y % s = p)) : cnt f s p (Y + 1) = cnt f s p Y := by rw [cnt, if_neg (fun e => h e.1)]
theorem cnt_miss (h : f Y = false) : cnt f s p (Y + 1) = cnt f s p Y := by rw [cnt, if_neg (fun e => by rw [h] at e; exact absurd e.2 (by decide))]
theorem cnt_le (f : Nat → Bool) (s p : Nat) : ∀ Y, cnt f s p Y ≤ Y
  | 0 => Nat.le_refl _
  | Y + 1 => by
    have := cnt_le f s p Y
    rw [cnt]; split <;> omega
theorem mod_shift (s a j : Nat) : (a + j * s) % s = a % s := Nat.add_mul_mod_self_right a j s
theorem cnt_gap (f : Nat → Bool) (hp : p < s) (j : Nat) : ∀ d, d < s → cnt f s p (p + j * s + 1 + d) = cnt f s p (p + j * s + 1)
  | 0, _ => rfl
  | d + 1, hd => by
    have ih := cnt_gap f hp j d (by omega)
    rw [← ih, ← Nat.add_assoc (p + j * s + 1) d 1]
    refine cnt_off (fun e => ?_)
    rw [show p + j * s + 1 + d = (p + 1 + d) + j * s by omega, mod_shift] at e
    rcases Nat.lt_or_ge (p + 1 + d) s with h | h
    · rw [Nat.mod_eq_of_lt h] at e; omega
    · rw [Nat.mod_eq_sub_mod h, Nat.mod_eq_of_lt (by omega)] at e; omega
theorem cnt_next (f : Nat → Bool) (hp : p < s) (j : Nat) : cnt f s p (p + (j + 1) * s) = cnt f s p (p + j * s + 1) := by
  have h := cnt_gap f hp j (s - 1) (by omega)
  rw [← h]; congr 1
  rw [Nat.add_mul, Nat.one_mul]; omega
theorem cnt_step_yes (hp : p < s) (j : Nat) (h : f (p + j * s) = true) : cnt f s p (p + (j + 1) * s) = cnt f s p (p + j * s) + 1 := by
  rw [cnt_next f hp j]; exact cnt_hit (by rw [mod_shift, Nat.mod_eq_of_lt hp]) h
theorem cnt_step_no (hp : p < s) (j : Nat) (h : f (p + j * s) = false) : cnt f s p (p + (j + 1) * s) = cnt f s p (p + j * s) := by
  rw [cnt_next f hp j]; exact cnt_miss h
theorem cnt_low (f : Nat → Bool) (hp : p < s) (k : Nat) : ∀ d, d ≤ p → cnt f s p (d + k * s) = cnt f s p (k * s)
  | 0, _ => by rw [Nat.zero_add]
  | d + 1, hd => by
    have ih := cnt_low f hp k d (by omega)
    rw [← ih, show d + 1 + k * s = d + k * s + 1 by omega]
    exact cnt_off (by rw [mod_shift, Nat.mod_eq_of_lt (by omega)]; omega)
theorem cnt_zero (f : Nat → Bool) (hp : p < s) : cnt f s p (p + 0 * s) = 0 := by
  have h := cnt_low f hp 0 p (Nat.le_refl _)
  rw [h, Nat.zero_mul]; rfl
theorem cnt_end (f : Nat → Bool) (hp : p < s) (k : Nat) : cnt f s p (p + k * s) = cnt f s p (k * s) := cnt_low f hp k p (Nat.le_refl _)
theorem cnt_two (f : Nat → Bool) (hp : p < s) : ∀ j, cnt f s p (p + j * s) + cnt (fun y => !f y) s p (p + j * s) = j
  | 0 => by rw [cnt_zero f hp, cnt_zero _ hp]
  | j + 1 => by
    have ih := cnt_two f hp j
    cases h : f (p + j * s)
    · rw [cnt_step_no hp j h, cnt_step_yes (f := fun y => !f y) hp j (by simp [h])]; omega
    · rw [cnt_step_yes hp j h, cnt_step_no (f := fun y => !f y) hp j (by simp [h])]; omega
end
/-- the counts of all places -/
def cntR (f : Nat → Bool) (s Y : Nat) : List Int := (List.range s).map (fun p => (cnt f s p Y : Int))
theorem cntR_len (f : Nat → Bool) (s Y : Nat) : (cntR f s Y).length = s := by simp [cntR]
theorem cntR_getD {f : Nat → Bool} {s Y p : Nat} (h : p < s) : (cntR f s Y).getD p 0 = (cnt f s p Y : Int) := by
  simp [cntR, List.getD_eq_getElem?_getD, h]
theorem cntR_none (f : Nat → Bool) (s : Nat) : cntR f s 0 = List.replicate s 0 := by
  refine List.ext_getElem (by simp [cntR]) (fun i h1 h2 => ?_)
  simp [cntR, cnt]
theorem cntR_hit {f : Nat → Bool} {s Y : Nat} (hs : 1 ≤ s) (hf : f Y = true) : (cntR f s Y).set (Y % s) ((cnt f s (Y % s) Y : Int) + 1) = cntR f s (Y + 1) := by
  refine List.ext_getElem (by simp [cntR]) (fun i h1 h2 => ?_)
  rw [List.getElem_set]
  simp only [cntR, List.getElem_map, List.getElem_range]
  split
  · rename_i e
    subst e
    rw [cnt_hit rfl hf]; push_cast; rfl
  · rename_i e
    rw [cnt_off e]
theorem cntR_miss {f : Nat → Bool} {s Y : Nat} (hf : f Y = false) : cntR f s (Y + 1) = cntR f s Y := by
  refine List.ext_getElem (by simp [cntR]) (fun i h1 h2 => ?_)
  simp only [cntR, List.getElem_map, List.getElem_range]
  rw [cnt_miss hf]
/-- the notch that stands for a leap years and b common ones -/
def bestN (a b : Nat) (m : Mth) : Int := if b < a ∨ (a = b ∧ m.lp < m.dy) then m.lp else m.dy
theorem bestN_more {a b : Nat} {m : Mth} (h : b < a) : bestN a b m = m.lp := by rw [bestN, if_pos (.inl h)]
theorem bestN_eq {a b : Nat} {m : Mth} (h : a = b) (h2 : m.lp < m.dy) : bestN a b m = m.lp := by rw [bestN, if_pos (.inr ⟨h, h2⟩)]
theorem bestN_less {a b : Nat} {m : Mth} (h : a < b) : bestN a b m = m.dy := by rw [bestN, if_neg (by omega)]
theorem bestN_eq2 {a b : Nat} {m : Mth} (h : a = b) (h2 : ¬ (m.lp < m.dy)) : bestN a b m = m.dy := by rw [bestN, if_neg (by omega)]
theorem bestN_ok {a b : Nat} {m : Mth} (h1 : 1 ≤ m.lp ∧ m.lp ≤ 60) (h2 : 1 ≤ m.dy ∧ m.dy ≤ 60) : 1 ≤ bestN a b m ∧ bestN a b m ≤ 60 := by
  unfold bestN; split
  · exact h1
  · exact h2
def rowB (ms : List Mth) (a b : Nat) : Nat → List Int
  | 0 => []
  | k + 1 => rowB ms a b k ++ [bestN a b (ms.getD k m0)]
theorem rowB_len (ms : List Mth) (a b : Nat) : ∀ k, (rowB ms a b k).length = k
  | 0 => rfl
  | k + 1 => by rw [rowB, List.length_append, rowB_len ms a b k]; rfl
def isL (rs : List Rul) (n' : Nat) (y : Nat) : Bool := leapK rs (y : Int) n'
/-- the best notches of the first Y years of s, counted over the years before C -/
def allB (ms : List Mth) (rs : List Rul) (n n' s C : Nat) : Nat → List Int
  | 0 => []
  | Y + 1 => allB ms rs n n' s C Y ++ rowB ms (cnt (isL rs n') s Y C) (cnt (fun y => !isL rs n' y) s Y C) n
theorem allB_len (ms : List Mth) (rs : List Rul) (n n' s C : Nat) : ∀ Y, (allB ms rs n n' s C Y).length = Y * n
  | 0 => by rw [Nat.zero_mul]; rfl
  | Y + 1 => by rw [allB, List.length_append, allB_len ms rs n n' s C Y, rowB_len, Nat.add_mul, Nat.one_mul]
theorem rowB_mem {ms : List Mth} {a b n : Nat} (h : ∀ j, j < n → mOk (ms.getD j m0) = true) : ∀ k, k ≤ n → ∀ x ∈ rowB ms a b k, 1 ≤ x ∧ x ≤ 60
  | 0, _, x, hx => by simp [rowB] at hx
  | k + 1, hk, x, hx => by
    rw [rowB, List.mem_append, List.mem_singleton] at hx
    rcases hx with hx | hx
    · exact rowB_mem h k (by omega) x hx
    · subst hx
      have := mOk_yes (h k (by omega))
      exact bestN_ok (by omega) (by omega)
theorem allB_mem {ms : List Mth} {rs : List Rul} {n n' s C : Nat} (h : ∀ j, j < n → mOk (ms.getD j m0) = true) : ∀ Y, ∀ x ∈ allB ms rs n n' s C Y, 1 ≤ x ∧ x ≤ 60
  | 0, x, hx => by simp [allB] at hx
  | Y + 1, x, hx => by
    rw [allB, List.mem_append] at hx
    rcases hx with hx | hx
    · exact allB_mem h Y x hx
    · exact rowB_mem h n (Nat.le_refl _) x hx
/-- the years in which k and cy years end together -/
def comN (k cy : Nat) : Nat := k / Nat.gcd k cy * cy
theorem comN_alt (k cy : Nat) : cy / Nat.gcd cy k * k = comN k cy := by
  unfold comN
  rw [Nat.gcd_comm cy k]
  have h1 := Nat.gcd_dvd_left k cy
  have h2 := Nat.gcd_dvd_right k cy
  rw [Nat.div_mul_right_comm h2, Nat.div_mul_right_comm h1, Nat.mul_comm cy k]
theorem comN_bd {k cy : Nat} (hk : k ≤ 260) (hc : cy ≤ 2000) : comN k cy ≤ 520000 := by
  unfold comN
  have h1 : k / Nat.gcd k cy ≤ 260 := Nat.le_trans (Nat.div_le_self _ _) hk
  exact Nat.le_trans (Nat.mul_le_mul h1 hc) (by decide)
theorem comN_mul (k cy : Nat) : ∃ q, comN k cy = q * k := ⟨cy / Nat.gcd cy k, (comN_alt k cy).symm⟩
theorem div_le_bd {y n : Nat} (hn : 1 ≤ n) : y ≤ 260 / n ↔ y * n ≤ 260 := by
  rw [Nat.le_div_iff_mul_le (by omega)]
theorem allF_le (ms : List Mth) (rs : List Rul) (n n' : Nat) (zs : List Int) (l f : Nat) : ∀ j, (allF ms rs n n' zs l f j).length ≤ j * n
  | 0 => Nat.zero_le _
  | j + 1 => by
    have ih := allF_le ms rs n n' zs l f j
    have h := fY_len ms rs n' zs (placeY l n (f + j)) (f + j) n
    show (allF ms rs n n' zs l f j ++ fY ms rs n' zs (placeY l n (f + j)) (f + j) n).length ≤ _
    rw [List.length_append, Nat.add_mul, Nat.one_mul]; omega
/-- the best cam of s years and the number of its faults -/
def camB (ms : List Mth) (rs : List Rul) (n n' s : Nat) : List Int := allB ms rs n n' s (comN s (cycK rs n').toNat) s
def cntFaults (ms : List Mth) (rs : List Rul) (n n' : Nat) (zs : List Int) (l : Nat) : Int := ((allF ms rs n n' zs l 0 (comN (l / n) (cycK rs n').toNat)).length : Nat)
def rBC (nm : ByteArray) (n n' : Nat) (ms : List Mth) (rs : List Rul) (cw y : Int) : List Int × Int × Int :=
  if vCal nm n n' ms rs cw then
    if inB y 1 ((260 / n : Nat) : Int) then (camB ms rs n n' y.toNat, cntFaults ms rs n n' (camB ms rs n n' y.toNat) (y.toNat * n), 0)
    else ([], 0, 2)
  else ([], 0, 1)
section
variable {nm : ByteArray} {n n' : Nat} {ms : List Mth} {rs : List Rul} {cw y : Int}
theorem rBC_bad (h : vCal nm n n' ms rs cw = false) : rBC nm n n' ms rs cw y = ([], 0, 1) := by rw [rBC, h]; rfl
theorem rBC_far (h : vCal nm n n' ms rs cw = true) (h2 : inB y 1 ((260 / n : Nat) : Int) = false) : rBC nm n n' ms rs cw y = ([], 0, 2) := by rw [rBC, h, h2]; rfl
theorem rBC_ok {s : Nat} (h : vCal nm n n' ms rs cw = true) (h2 : inB (s : Int) 1 ((260 / n : Nat) : Int) = true) : rBC nm n n' ms rs cw (s : Int) = (camB ms rs n n' s, cntFaults ms rs n n' (camB ms rs n n' s) (s * n), 0) := by
  rw [rBC, h, h2]; rfl
theorem vCal_cyc (h : vCal nm n n' ms rs cw = true) : ∃ cy : Nat, cycK rs n' = (cy : Int) ∧ 1 ≤ cy ∧ cy ≤ 2000 := by
  obtain ⟨h1, h2, -⟩ := vCal_yes h
  have hb := cycK_bd rs n' (fun j hj => by have := ruleOk_yes (h1 j hj); omega)
  obtain ⟨cy, e⟩ := Int.eq_ofNat_of_zero_le (show 0 ≤ cycK rs n' by omega)
  exact ⟨cy, e, by omega, by omega⟩
theorem vCal_evs (h : vCal nm n n' ms rs cw = true) : ∀ j, j < n' → 1 ≤ (rs.getD j r0).ev ∧ (rs.getD j r0).ev ≤ 1000 := fun j hj => by have := ruleOk_yes ((vCal_yes h).1 j hj); omega
theorem camB_ok {s : Nat} (h : vCal nm n n' ms rs cw = true) (hs : 1 ≤ s) (h2 : s * n ≤ 260) : vCam (camB ms rs n n' s) = true ∧ (camB ms rs n n' s).length = s * n := by
  obtain ⟨-, -, -, hmo, ⟨n1, n2⟩, -, -⟩ := vCal_yes h
  have hl : (camB ms rs n n' s).length = s * n := allB_len ms rs n n' s _ s
  have h3 : 1 * 1 ≤ s * n := Nat.mul_le_mul hs n1
  refine ⟨?_, hl⟩
  simp only [vCam, Bool.and_eq_true, List.all_eq_true]
  refine ⟨fun x hx => ?_, ?_⟩
  · have := allB_mem hmo s x hx
    unfold inB; simp; omega
  · rw [hl]; unfold inB; simp; omega
end
end Go.Proofs.YtmbdedkelckedaaGreatDoor

/- Contracts of what counts the faults of a cam and of what asks for the years of a cam, the program's and the reference's. No conditions but those of a valid calendar and of a cam that belongs to it. -/
namespace Go.Proofs.YtmbdedkelckedaaGreatDoor
open Go.RowKit
set_option linter.unusedVariables false
set_option linter.unusedSimpArgs false
theorem gcd_nat (a b : Nat) : (Int.gcd (a : Int) (b : Int) : Int) = ((Nat.gcd a b : Nat) : Int) := by rw [Int.gcd_natCast_natCast]
theorem gcd_facts {k cy : Nat} (hk : 1 ≤ k) (hk2 : k ≤ 260) (hc : cy ≤ 2000) : 1 ≤ Nat.gcd k cy ∧ Nat.gcd k cy ≤ 260 ∧ k / Nat.gcd k cy ≤ 260 := by
  have h1 : 0 < Nat.gcd k cy := Nat.gcd_pos_of_pos_left _ hk
  have h2 := Nat.le_of_dvd hk (Nat.gcd_dvd_left k cy)
  exact ⟨h1, by omega, Nat.le_trans (Nat.div_le_self _ _) hk2⟩
set_option maxHeartbeats 1000000 in
theorem notched_any (nm : ByteArray) (A A' : Option Addr) (n n' c c' : Nat) (cw y : Int) (w : World) (hn : 1 ≤ n) (hn2 : n ≤ 1048576) :
    Calls Tryz.prog 31 #[.agg #[.string nm, .slice A n c, .slice A' n' c', .int .i64 cw], .int .i64 y] w fun e w' => e = .returned (.bool (inB y 1 ((260 / n : Nat) : Int))) ∧ Below w.heap.size w w' := by
  have t1 : (260 : Int).tdiv (n : Int) = ((260 / n : Nat) : Int) := nat_tdiv 260 n
  have t2 : (260 : Int) / (n : Int) = ((260 / n : Nat) : Int) := (Int.natCast_ediv 260 n).symm
  have e0 : ¬ ((n : Int) = 0) := by omega
  have e1 : ((n : Int) == 0) = false := by rw [beq_eq_false_iff_ne]; omega
  have e2 : ¬ (n = 0) := by omega
  have hq : 260 / n ≤ 260 := Nat.div_le_self _ _
  generalize 260 / n = Q at *
  have r1 : IntKind.i64.wrap (Q : Int) = (Q : Int) := IntWalk.i64_in _ (by omega)
  obtain ⟨v, hv⟩ : ∃ v, inB y 1 (Q : Int) = v := ⟨_, rfl⟩
  rw [hv]
  have Y := Lib.hid hv
  clear hv
  go_enter Tryz.func31, Tryz.ntmps31
  go_wp2_with (go_at_call 62; refine (within_val _ _ _ _ _ Y.out).mono ?_; rintro e w' ⟨rfl, rfl⟩)
  go_ret
  exact ⟨rfl, by (repeat (first | with_reducible exact Below.refl _ _ | with_reducible refine below_alloc ?_ _ | with_reducible refine below_drewN ?_ _ | with_reducible refine Below.drew ?_ | ((with_reducible refine below_set ?_ ?_ _); rotate_left; (focus (first | (simp; done) | (simp; omega) | omega))) | with_reducible refine below_call ?_ (by assumption)))⟩
theorem years_iff {y : Int} {n : Nat} (hn : 1 ≤ n) : inB y 1 ((260 / n : Nat) : Int) = (inB y 1 260 && decide (y * (n : Int) ≤ 260)) := by
  have hq : 260 / n ≤ 260 := Nat.div_le_self _ _
  by_cases h1 : 1 ≤ y
  · obtain ⟨k, rfl⟩ := Int.eq_ofNat_of_zero_le (show 0 ≤ y by omega)
    have h2 := div_le_bd (y := k) hn
    have e : (k : Int) * (n : Int) = ((k * n : Nat) : Int) := by push_cast; rfl
    rw [e]
    unfold inB
    rw [Bool.eq_iff_iff]
    simp only [Bool.and_eq_true, decide_eq_true_eq]
    omega
  · unfold inB
    simp [h1]
set_option maxHeartbeats 2000000 in
theorem l17Years_any (g : Nat) (nm : ByteArray) (A A' : Option Addr) (n n' c c' : Nat) (cw y : Int) (w : World) (hC : CalAt w g nm A A' n n' c c' cw) (hn : 1 ≤ n) (hn2 : n ≤ 1048576) :
    Calls Tryz.prog 70 #[.pointer (some ⟨g, 0, none⟩), .int .i64 y] w fun e w' => e = .returned (.bool (inB y 1 ((260 / n : Nat) : Int))) ∧ Below w.heap.size w w' := by
  have k1 := hC.c1
  have zg := hC.lt
  rw [years_iff hn]
  cases v1 : inB y 1 260
  · have Y := Lib.hid v1
    clear v1
    go_enter Tryz.func70, Tryz.ntmps70
    go_wp2_with (go_at_call 85; refine (l00In_val _ _ _ _ _ Y.out).mono ?_; rintro e w' ⟨rfl, rfl⟩)
    go_ret
    exact ⟨rfl, by (repeat (first | with_reducible exact Below.refl _ _ | with_reducible refine below_alloc ?_ _ | with_reducible refine below_drewN ?_ _ | with_reducible refine Below.drew ?_ | ((with_reducible refine below_set ?_ ?_ _); rotate_left; (focus (first | (simp; done) | (simp; omega) | omega))) | with_reducible refine below_call ?_ (by assumption)))⟩
  · have Y := Lib.hid v1
    have y1 := inB_yes v1
    have b1 : y * (n : Int) ≤ 260 * (n : Int) := Int.mul_le_mul_of_nonneg_right y1.2 (by omega)
    have b2 : 0 ≤ y * (n : Int) := Int.mul_nonneg (by omega) (by omega)
    have s1 : IntKind.i64.wrap (y * (n : Int)) = y * (n : Int) := IntWalk.i64_in _ (by omega)
    clear v1
    by_cases h : y * (n : Int) ≤ 260
    · go_enter Tryz.func70, Tryz.ntmps70
      go_wp2_with (go_at_call 85; refine (l00In_val _ _ _ _ _ Y.out).mono ?_; rintro e w' ⟨rfl, rfl⟩)
      go_ret
      exact ⟨by simp [h], by (repeat (first | with_reducible exact Below.refl _ _ | with_reducible refine below_alloc ?_ _ | with_reducible refine below_drewN ?_ _ | with_reducible refine Below.drew ?_ | ((with_reducible refine below_set ?_ ?_ _); rotate_left; (focus (first | (simp; done) | (simp; omega) | omega))) | with_reducible refine below_call ?_ (by assumption)))⟩
    · go_enter Tryz.func70, Tryz.ntmps70
      go_wp2_with (go_at_call 85; refine (l00In_val _ _ _ _ _ Y.out).mono ?_; rintro e w' ⟨rfl, rfl⟩)
      go_ret
      exact ⟨by simp [h], by (repeat (first | with_reducible exact Below.refl _ _ | with_reducible refine below_alloc ?_ _ | with_reducible refine below_drewN ?_ _ | with_reducible refine Below.drew ?_ | ((with_reducible refine below_set ?_ ?_ _); rotate_left; (focus (first | (simp; done) | (simp; omega) | omega))) | with_reducible refine below_call ?_ (by assumption)))⟩
set_option maxRecDepth 8000 in
set_option maxHeartbeats 4000000 in
theorem faultCount_any (nm : ByteArray) (A A' L : Option Addr) (n n' c c' l e B : Nat) (ms : List Mth) (rs : List Rul) (cw : Int) (zs : List Int) (w : World) (h : Months w B A n ms) (h' : Rules w B A' n' rs) (hI : Ints w B L l zs) (hB : B ≤ w.heap.size) (hn' : n' ≤ 1048576) (hl1 : 1 ≤ l) (hl : l ≤ 260) (hle : l ≤ e) (he : e ≤ 9223372036854775807) (k3 : l % n = 0) (hv : vCal nm n n' ms rs cw = true) :
    Calls Tryz.prog 39 #[.agg #[.string nm, .slice A n c, .slice A' n' c', .int .i64 cw], .slice L l e] w fun e w' => e = .returned (.int .i64 (cntFaults ms rs n n' zs l)) ∧ Below w.heap.size w w' := by
  have H := Lib.hid (Tri.more h hB)
  have H' := Lib.hid (Tri.more h' hB)
  have HI := Lib.hid (hI.more hB)
  obtain ⟨-, -, -, -, ⟨n1, n2⟩, -, -⟩ := vCal_yes hv
  obtain ⟨cy, hcy, c1, c2⟩ := vCal_cyc hv
  obtain ⟨b1, b2, b3⟩ := place_bd (y := 0) k3 hl1 n1
  have hk : l / n ≤ 260 := Nat.le_trans (Nat.div_le_self _ _) hl
  obtain ⟨g1, g2, g3⟩ := gcd_facts (k := l / n) (cy := cy) b1 hk c2
  have hb := comN_bd (k := l / n) (cy := cy) hk c2
  have t1 : ((l / n : Nat) : Int).tdiv ((Nat.gcd (l / n) cy : Nat) : Int) = ((l / n / Nat.gcd (l / n) cy : Nat) : Int) := nat_tdiv _ _
  have t2 : ((l / n : Nat) : Int) / ((Nat.gcd (l / n) cy : Nat) : Int) = ((l / n / Nat.gcd (l / n) cy : Nat) : Int) := (Int.natCast_ediv _ _).symm
  have hX : ((l / n / Nat.gcd (l / n) cy : Nat) : Int) * (cy : Int) = ((comN (l / n) cy : Nat) : Int) := by unfold comN; push_cast; rfl
  have CG := Lib.hid (fun (W : World) => (show Calls Tryz.prog 38 #[.int .i64 ((l / n : Nat) : Int), .int .i64 (cy : Int)] W fun e w' => e = .returned (.int .i64 ((Nat.gcd (l / n) cy : Nat) : Int)) ∧ ∃ k, w' = W.drewN k by rw [← gcd_nat]; exact gcd_any _ _ W (by omega) (by omega)))
  have cB := fun (W : World) => belongs_any nm A A' L n n' c c' l e cw W n1 (by omega) (by omega)
  rw [belV_yes k3] at cB
  have cC := fun (W : World) (hb : Below w.heap.size w W) => cycleYears_any A' n' c' w.heap.size rs W (Tri.below H'.out hb) hb.size (by omega) (vCal_evs hv)
  rw [hcy] at cC
  have CF := Lib.hid (fun (W : World) (hb : Below w.heap.size w W) (y : Nat) (hy : y ≤ 1000000000) => faultsOf_any nm A A' L n n' c c' l e w.heap.size ms rs cw zs y W (Tri.below H.out hb) (Tri.below H'.out hb) (Ints.below HI.out hb) hb.size n1 n2 hn' hl1 hl hle he k3 (vCal_ev hv) hy)
  have hcf : cntFaults ms rs n n' zs l = ((allF ms rs n n' zs l 0 (comN (l / n) cy)).length : Nat) := by unfold cntFaults; rw [hcy, Int.toNat_natCast]
  rw [hcf]
  have HL := Lib.hid (fun j => allF_le ms rs n n' zs l 0 j)
  have HS := Lib.hid (fun j => (show (allF ms rs n n' zs l 0 (j + 1)).length = (allF ms rs n n' zs l 0 j).length + (fY ms rs n' zs (placeY l n j) j n).length by
    show (allF ms rs n n' zs l 0 j ++ fY ms rs n' zs (placeY l n (0 + j)) (0 + j) n).length = _
    rw [List.length_append, Nat.zero_add]))
  generalize comN (l / n) cy = X at *
  generalize Nat.gcd (l / n) cy = G at *
  generalize hQ : l / n / G = Q at *
  generalize hK : l / n = K at *
  have e0 : ¬ ((G : Int) = 0) := by omega
  have e1 : ((G : Int) == 0) = false := by rw [beq_eq_false_iff_ne]; omega
  have e2 : ¬ (G = 0) := by omega
  have r1 : IntKind.i64.wrap (Q : Int) = (Q : Int) := IntWalk.i64_in _ (by omega)
  have r2 : IntKind.i64.wrap ((Q : Int) * (cy : Int)) = (X : Int) := by rw [hX]; exact IntWalk.i64_in _ (by omega)
  have r3 : IntKind.i64.wrap (X : Int) = (X : Int) := IntWalk.i64_in _ (by omega)
  have CB := Lib.hid cB
  have CC := Lib.hid cC
  clear hv hcy cB cC hQ hK hcf h h' hI b3 b2
  go_enter Tryz.func39, Tryz.ntmps39
  go_wp2
  have yb : Below w.heap.size w (w.alloc (.cells #[.string nm, .slice A n c, .slice A' n' c', .int .i64 cw] 27)) := by (repeat (first | with_reducible exact Below.refl _ _ | with_reducible refine below_alloc ?_ _ | with_reducible refine below_drewN ?_ _ | with_reducible refine Below.drew ?_ | ((with_reducible refine below_set ?_ ?_ _); rotate_left; (focus (first | (simp; done) | (simp; omega) | omega))) | with_reducible refine below_call ?_ (by assumption)))
  go_region_held3 (fun w' => w'.cell? ⟨w.heap.size, 0, none⟩ = some (.string nm) ∧ w'.cell? ⟨w.heap.size, 1, none⟩ = some (.slice A n c) ∧ w'.cell? ⟨w.heap.size, 2, none⟩ = some (.slice A' n' c') ∧ w'.cell? ⟨w.heap.size, 3, none⟩ = some (.int .i64 cw) ∧ w.heap.size < w'.heap.size ∧ Below w.heap.size w w') (first | ((try go_split_ands); (try dsimp only); refine ⟨?_, ?_, ?_, ?_, ?_, ?_⟩ <;> first | (exact cell_call (by assumption) (by assumption) (by assumption)) | (exact lt_call (by assumption) (by assumption)) | (exact below_call' (by assumption) (by assumption)) | (exact Below.drew (by assumption)) | (with_reducible assumption) | (simp; done) | (simp [*]; done) | ((repeat (first | with_reducible exact Below.refl _ _ | with_reducible refine below_alloc ?_ _ | with_reducible refine below_drewN ?_ _ | with_reducible refine Below.drew ?_ | ((with_reducible refine below_set ?_ ?_ _); rotate_left; (focus (first | (simp; done) | (simp; omega) | omega))) | with_reducible refine below_call ?_ (by assumption))); done) | omega | (simp; omega) | (simp [go_sem]; done) | (simp [go_sem, *]; done))) (first | (go_at_call 75; refine (CB.out _).mono ?_; rintro e1 w2 ⟨rfl, hb2⟩) | (go_at_call 37; go_split_ands; refine (CC.out _ (by assumption)).mono ?_; rintro e1 w3 ⟨rfl, hb3⟩))
  go_split_ands
  have HB3 : Hid (Below w.heap.size w w3) := Lib.hid (by assumption)
  have KC3 : Hid (CalAt w3 w.heap.size nm A A' n n' c c' cw) := Lib.hid ⟨by assumption, by assumption, by assumption, by assumption, by assumption⟩
  go_wp2_with fail
  go_at_call 38
  refine (CG.out _).mono ?_
  rintro e1 w4 ⟨rfl, kk, rfl⟩
  have HB4 : Hid (Below w.heap.size w (w3.drewN kk)) := Lib.hid (below_drewN HB3.out _)
  have KC4 : Hid (CalAt (w3.drewN kk) w.heap.size nm A A' n n' c c' cw) := Lib.hid (KC3.out.call (below_drewN (Below.refl _ _) _))
  obtain ⟨W5, hW5⟩ : ∃ W, w3.drewN kk = W := ⟨_, rfl⟩
  rw [hW5] at HB4 KC4 ⊢
  clear hW5
  go_wp2
  go_loopw [8, 9] (fun a t wr => ∃ j : Nat, t = .int .i64 (j : Int) ∧ j ≤ X ∧ a = .int .i64 ((allF ms rs n n' zs l 0 j).length : Nat) ∧ Hid (CalAt wr w.heap.size nm A A' n n' c c' cw) ∧ Hid (Below w.heap.size w wr)) (fun _ t _ => X - (intOf t).toNat)
  case atStart => exact ⟨0, rfl, Nat.zero_le _, rfl, KC4, HB4⟩
  case round =>
    obtain ⟨j, rfl, hj, rfl, HC, HB⟩ := hrel
    obtain ⟨zc, u0, u1, u2, u3⟩ := HC.out
    have hl1 := HL.out j
    have hs1 := HS.out j
    have hl2 := HL.out (j + 1)
    have m1 : j * n ≤ 520000 * 20 := Nat.mul_le_mul (by omega) n2
    by_cases hlt : j < X
    · have i1 : (j : Int) < (X : Int) := by omega
      have m2 : (j + 1) * n ≤ 520000 * 20 := Nat.mul_le_mul (by omega) n2
      have cf := CF.out wr HB.out j (by omega)
      generalize fY ms rs n' zs (placeY l n j) j n = G2 at *
      obtain ⟨F2, hF2⟩ : ∃ F2, allF ms rs n n' zs l 0 (j + 1) = F2 := ⟨_, rfl⟩
      have HF2 := Lib.hid hF2
      rw [hF2] at hs1 hl2
      clear hF2
      generalize allF ms rs n n' zs l 0 j = F1 at *
      have CF2 := Lib.hid cf
      clear cf
      go_wp2_with fail
      go_at_call 36
      refine CF2.out.mono ?_
      rintro e1 w6 ⟨X2, m6, c6, rfl, ho6, hb6⟩
      have hln := ho6.len
      have HC6 := Lib.hid (HC.out.call hb6)
      have HB6 := Lib.hid (below_call HB.out hb6)
      clear ho6 hb6 zc u0 u1 u2 u3
      have hx : (F1.length : Int) + (m6 : Int) = (F2.length : Int) := by omega
      have hb2 : (F2.length : Int) ≤ 10400000 := by omega
      clear hs1 hl1 hl2 hln m1 m2
      go_wp2
      go_roundw
      case rel => exact ⟨j + 1, by go_num, by omega, by rw [HF2.out], HC6, HB6⟩
      case measure => simp [intOf]; omega
    · have hE : j = X := by omega
      subst hE
      go_wp2
      go_ret
      exact ⟨rfl, HB.out⟩
end Go.Proofs.YtmbdedkelckedaaGreatDoor
