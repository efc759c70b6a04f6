
/- The walks of days and dates: the program's dayOf, DayOf, dateOf, DateOf, weekOf. -/
import Derived.Test.YtlkidhfjkgppoaaDoorE0
import Derived.Test.YtlkidhfjkgppoaaDoorE1
import Derived.Deep.QuietTactic
import Derived.BigQuiet
import Derived.IntWalk
namespace Go.Proofs.YtlkidhfjkgppoaaDoor
open Go.RowKit Limb Work
set_option linter.unusedVariables false
set_option linter.unusedSimpArgs false

/-- What dayOf comes to. -/
def dayR (y m d : Int) : Int := if dateB y m d = true then num y m d else 0
theorem dayR_yes {y m d : Int} (h : dateB y m d = true) : dayR y m d = num y m d := if_pos h
theorem dayR_no {y m d : Int} (h : dateB y m d = false) : dayR y m d = 0 := if_neg (by rw [h]; simp)
theorem num_cum {y d : Int} {k : Nat} : num y ((k : Int) + 1) d = bef y + cum y k + d := by
  unfold num; rw [show ((k : Int) + 1 - 1).toNat = k by omega]
theorem cum_bd12 (y : Int) {k : Nat} (h : k ≤ 12) : 0 ≤ cum y k ∧ cum y k ≤ 366 := by
  have a := cum_le y (i := 0) (j := k) (by omega)
  have b := cum_le y (i := k) (j := 12) h
  have c := cum_12_bd y
  rw [cum] at a
  omega

theorem ival {a b : Int} (h : a = b) : Value.int .i64 a = .int .i64 b := by rw [h]
def RetI2 (n : Int) (b : Bool) (w : World) (e : Ending) (w' : World) : Prop := e = .returned (.tuple #[.int .i64 n, .bool b]) ∧ Below w.heap.size w w'
def RetNF (n f : Int) (w : World) (e : Ending) (w' : World) : Prop := e = .returned (.tuple #[.int .i64 n, .int .i64 f]) ∧ Below w.heap.size w w'

def RetD3 (y m d : Int) (w : World) (e : Ending) (w' : World) : Prop := e = .returned (.tuple #[.int .i64 y, .int .i64 m, .int .i64 d]) ∧ Below w.heap.size w w'
theorem Work.DateIs.year_le {day y m d v : Int} (h : DateIs day y m d) (hv : bef v < day) : v ≤ y := by
  have f := h.facts
  rcases Int.lt_or_le y v with k | k
  · have := bef_mono (a := y + 1) (b := v) (by omega); omega
  · exact k
def RetD4 (y m d f : Int) (w : World) (e : Ending) (w' : World) : Prop := e = .returned (.tuple #[.int .i64 y, .int .i64 m, .int .i64 d, .int .i64 f]) ∧ Below w.heap.size w w'
end Go.Proofs.YtlkidhfjkgppoaaDoor
