/- What the laws of perpetual works keep in their hands. No conditions. -/
import Derived.Test.YtmbdedkelckedaaDrawSt4
import Derived.Test.YtmbdedkelckedaaAddDays3
import Derived.Test.YtmbdedkelckedaaOpenBytes
namespace Go.Proofs.Ytmbdedkelckedaa
open Go.RowKit
set_option linter.unusedVariables false
set_option linter.unusedSimpArgs false
set_option maxHeartbeats 400000 in
theorem a2Long_any (A A' : Option Addr) (n n' c c' : Nat) (w : World) (hn : n ≤ 9223372036854775807) (hn' : n' ≤ 9223372036854775807) :
    Calls Try.prog 6 #[.slice A n c, .slice A' n' c'] w fun e w' => e = .returned (.bool (decide ((3000 : Int) < n) || decide ((3000 : Int) < n'))) ∧ w = w' := by
  by_cases h : (3000 : Int) < n
  · have h1 : decide ((3000 : Int) < n) = true := by simpa using h
    rw [h1]
    go_enter Try.func6, Try.ntmps6
    go_wp2
    go_ret
    exact ⟨rfl, rfl⟩
  · have h1 : decide ((3000 : Int) < n) = false := by simpa using h
    rw [h1, Bool.false_or]
    go_enter Try.func6, Try.ntmps6
    go_wp2
    go_ret
    exact ⟨rfl, rfl⟩
/-- a work in its box, its cam anywhere -/
structure PB (W : World) (p : Nat) (L : Option Addr) (l cc : Nat) (zs : List Int) (mo te ix da we wd : Int) : Prop where
  wk : Work W p (.slice L l cc) mo te ix da we wd
  iz : Ints W W.heap.size L l zs
theorem PB.call {W W' : World} {p l cc : Nat} {L : Option Addr} {zs : List Int} {mo te ix da we wd : Int} (h : PB W p L l cc zs mo te ix da we wd) (hb : Below W.heap.size W W') : PB W' p L l cc zs mo te ix da we wd := ⟨h.wk.call hb, (h.iz.below hb).more hb.size⟩
theorem pb_new {W : World} {base l cc : Nat} {L : Option Addr} {zs : List Int} (t : TypeId) (h : Own W base L l cc zs) (mo te ix da we wd : Int) : PB (W.alloc (.cells #[.slice L l cc, .int .i64 mo, .int .i64 te, .int .i64 ix, .int .i64 da, .int .i64 we, .int .i64 wd] t)) W.heap.size L l cc zs mo te ix da we wd :=
  ⟨work_new _ _ _ _ _ _ _ _ _, (Own.alloc h _).ints (Nat.le_refl _)⟩
/-- the calendar, the day and the work of a law, each in its box, from block b on -/
structure LW (w W : World) (b : Nat) (nm : ByteArray) (A1 A2 L : Option Addr) (n1 n2 c1 c2 l cc : Nat) (ms : List Mth) (rs : List Rul) (zs : List Int) (we y m d mo te ix da wd : Int) : Prop where
  cal : CalRd W b nm A1 A2 n1 n2 c1 c2 we ms rs
  dt : DatAt W (b + 1) y m d
  pb : PB W (b + 1 + 1) L l cc zs mo te ix da we wd
  bl : Below w.heap.size w W
section
variable {w W W' : World} {b : Nat} {nm : ByteArray} {A1 A2 L : Option Addr} {n1 n2 c1 c2 l cc : Nat} {ms : List Mth} {rs : List Rul} {zs : List Int} {we y m d mo te ix da wd : Int}
theorem LW.call (h : LW w W b nm A1 A2 L n1 n2 c1 c2 l cc ms rs zs we y m d mo te ix da wd) (hb : Below W.heap.size W W') : LW w W' b nm A1 A2 L n1 n2 c1 c2 l cc ms rs zs we y m d mo te ix da wd :=
  ⟨h.cal.call hb, h.dt.call hb, h.pb.call hb, below_call h.bl hb⟩
theorem lw_new (w W : World) (t t2 t3 : TypeId) (hm : Months W W.heap.size A1 n1 ms) (hr : Rules W W.heap.size A2 n2 rs) (hi : Ints W W.heap.size L l zs) (hb : Below w.heap.size w W) :
    LW w (((W.alloc (.cells #[.string nm, .slice A1 n1 c1, .slice A2 n2 c2, .int .i64 we] t)).alloc (.cells #[.int .i64 y, .int .i64 m, .int .i64 d] t2)).alloc (.cells #[.slice L l cc, .int .i64 mo, .int .i64 te, .int .i64 ix, .int .i64 da, .int .i64 we, .int .i64 wd] t3)) W.heap.size nm A1 A2 L n1 n2 c1 c2 l cc ms rs zs we y m d mo te ix da wd := by
  have h1 := alb0 W (.cells #[.string nm, .slice A1 n1 c1, .slice A2 n2 c2, .int .i64 we] t)
  have h2 := alb0 (W.alloc (.cells #[.string nm, .slice A1 n1 c1, .slice A2 n2 c2, .int .i64 we] t)) (.cells #[.int .i64 y, .int .i64 m, .int .i64 d] t2)
  have h3 := alb0 ((W.alloc (.cells #[.string nm, .slice A1 n1 c1, .slice A2 n2 c2, .int .i64 we] t)).alloc (.cells #[.int .i64 y, .int .i64 m, .int .i64 d] t2)) (.cells #[.slice L l cc, .int .i64 mo, .int .i64 te, .int .i64 ix, .int .i64 da, .int .i64 we, .int .i64 wd] t3)
  have k1 : CalRd (W.alloc (.cells #[.string nm, .slice A1 n1 c1, .slice A2 n2 c2, .int .i64 we] t)) W.heap.size nm A1 A2 n1 n2 c1 c2 we ms rs := ⟨cal_new W t nm A1 A2 n1 n2 c1 c2 we, Tri.more (Tri.below hm h1) h1.size, Tri.more (Tri.below hr h1) h1.size⟩
  refine ⟨(k1.call h2).call h3, ?_, ⟨?_, ((((hi.below h1).more h1.size).below h2).more h2.size |>.below h3).more h3.size⟩, below_alloc (below_alloc (below_alloc hb _) _) _⟩
  · have := (dat_new (W.alloc (.cells #[.string nm, .slice A1 n1 c1, .slice A2 n2 c2, .int .i64 we] t)) t2 y m d).call h3
    simpa using this
  · have := work_new ((W.alloc (.cells #[.string nm, .slice A1 n1 c1, .slice A2 n2 c2, .int .i64 we] t)).alloc (.cells #[.int .i64 y, .int .i64 m, .int .i64 d] t2)) t3 (.slice L l cc) mo te ix da we wd
    simpa using this
end
theorem run_ok {zs : List Int} {l K j : Nat} {mo te da we wd : Int} (hv : vPerp zs l mo te (K : Int) da we wd = true) (hj : j ≤ 200000) :
    rRunPerpetual zs l mo te (K : Int) da we wd (j : Int) = okP zs l mo te ((nightsS zs l te we j (K, da, wd)).1 : Int) (nightsS zs l te we j (K, da, wd)).2.1 we (nightsS zs l te we j (K, da, wd)).2.2 := by
  unfold rRunPerpetual
  rw [hv, if_pos rfl, inB_mk (by omega) (by omega), if_pos rfl]; rfl
end Go.Proofs.Ytmbdedkelckedaa
