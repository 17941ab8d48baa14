/- The functions that push a perpetual work by one tooth: each gives a work with a new cam, and a code. No conditions but that a cam has at most 2^20 levels. -/
import Derived.Test.YtbmiamfgdjiodaaNight
namespace Go.Proofs.Ytbmiamfgdjiodaa
open Go.RowKit
set_option linter.unusedVariables false
set_option linter.unusedSimpArgs false
/-- a result: the number of levels, the levels, the numbers, the code -/
def PR := Nat × List Int × Int × Int × Int × Int × Int × Int × Int
def okP (zs : List Int) (n : Nat) (mo te ix da we wd : Int) : PR := (n, zs, mo, te, ix, da, we, wd, 0)
def badP (cd : Int) : PR := (0, [], 0, 0, 0, 0, 0, 0, cd)
def NewPerp (w : World) : PR → Ending → World → Prop
  | (n, zs, mo, te, ix, da, we, wd, cd), e, w' => ∃ A c, e = .returned (.tuple #[.agg #[.slice A n c, .int .i64 mo, .int .i64 te, .int .i64 ix, .int .i64 da, .int .i64 we, .int .i64 wd], .int .i64 cd]) ∧ Own w' w.heap.size A n c zs ∧ Below w.heap.size w w'
def badV (cd : Int) : Value := .tuple #[.agg #[.slice none 0 0, .int .i64 0, .int .i64 0, .int .i64 0, .int .i64 0, .int .i64 0, .int .i64 0], .int .i64 cd]
theorem newPerp_bad {w w' : World} {cd : Int} (h : Below w.heap.size w w') : NewPerp w (badP cd) (.returned (badV cd)) w' := ⟨none, 0, rfl, Own.nil_, h⟩
theorem Work.far {w w' : World} {g g' : Nat} {S : Value} {mo te ix da we wd : Int} (h : Work w g' S mo te ix da we wd) (hg : w.grownBy w' (some g)) (hne : g' ≠ g) : Work w' g' S mo te ix da we wd :=
  h.keep (hg.block g' h.lt (by intro e; exact hne (by injection e)))

def rPushMonth (zs : List Int) (n : Nat) (mo te ix da we wd : Int) : PR := if vPerp zs n mo te ix da we wd then okP zs n mo te ((((ix.toNat + 1) % n : Nat) : Int)) (da) we (wd) else badP 1

def rPushWeekday (zs : List Int) (n : Nat) (mo te ix da we wd : Int) : PR := if vPerp zs n mo te ix da we wd then okP zs n mo te ((ix.toNat : Int)) (da) we (mvW we wd) else badP 1

def rPushDate (zs : List Int) (n : Nat) (mo te ix da we wd : Int) : PR := if vPerp zs n mo te ix da we wd then okP zs n mo te ((mvK n te ix.toNat da 1 : Int)) (mvD te da 1) we (wd) else badP 1
end Go.Proofs.Ytbmiamfgdjiodaa
