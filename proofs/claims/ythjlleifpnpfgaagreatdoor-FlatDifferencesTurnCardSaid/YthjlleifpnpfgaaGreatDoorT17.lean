/- The walks of package amount's days: readDay, ReadDay. The walks of the reference's days: ofDigits, number, readWeek, ReadDay. -/
import Derived.Test.YthjlleifpnpfgaaGreatDoorM1
import Derived.Test.YthjlleifpnpfgaaGreatDoorM2
import Derived.Test.YthjlleifpnpfgaaGreatDoorE4
import Derived.Deep.RegionHeld3
import Derived.Test.YthjlleifpnpfgaaGreatDoorE5
import Derived.Test.YthjlleifpnpfgaaGreatDoorM0
import Derived.Test.YthjlleifpnpfgaaGreatDoorT12
import Derived.Test.YthjlleifpnpfgaaGreatDoorShelf
-- merged: M3 M4 M5 T16 T17
namespace Go.Proofs.YthjlleifpnpfgaaGreatDoor
open Go.RowKit Limb Work Nmb
set_option linter.unusedVariables false
set_option linter.unusedSimpArgs false
theorem prt_three {a b c : Nat} (hc : 0 < c) {l : List UInt8} {xs : List Int} (h : prt [a, b, c] l = some xs) : ∃ x y z, xs = [x, y, z] /\ (a <= 4 -> 0 <= x /\ x <= 9999) /\ (b <= 4 -> 0 <= y /\ y <= 9999) /\ (c <= 4 -> 0 <= z /\ z <= 9999) /\ (c <= 2 -> z <= 99) /\ (b <= 2 -> y <= 99) /\ (c <= 1 -> z <= 9) := by
 rw [prt3 hc] at h
 split at h
 ·rename_i hd
  obtain ⟨h0, h1, h2, h3⟩ := hd
  injection h with h
  have a1 := dv_lt h1
  have a2 := dv_lt h2
  have a3 := dv_lt h3
  have l1 : (l.take a).length = a := by simp; omega
  have l2 : ((l.drop a).take b).length = b := by simp; omega
  have l3 : (l.drop (a + b)).length = c := by simp; omega
  rw [l1] at a1; rw [l2] at a2; rw [l3] at a3
  refine ⟨_, _, _, h.symm, fun hk => ?_, fun hk => ?_, fun hk => ?_, fun hk => ?_, fun hk => ?_, fun hk => ?_⟩
  ·have : 10 ^ a <= 10 ^ 4 := Nat.pow_le_pow_right (by decide) hk
   omega
  ·have : 10 ^ b <= 10 ^ 4 := Nat.pow_le_pow_right (by decide) hk
   omega
  ·have : 10 ^ c <= 10 ^ 4 := Nat.pow_le_pow_right (by decide) hk
   omega
  ·have : 10 ^ c <= 10 ^ 2 := Nat.pow_le_pow_right (by decide) hk
   omega
  ·have : 10 ^ b <= 10 ^ 2 := Nat.pow_le_pow_right (by decide) hk
   omega
  ·have : 10 ^ c <= 10 ^ 1 := Nat.pow_le_pow_right (by decide) hk
   omega
 ·cases h
theorem readO_1 (pv : Int) (l : List UInt8) : readO 1 pv l = opt3 dayO (prt [4, 2, 2] l) := by
 rw [opt3_prt (by decide) l dayO (fun x y z h => dayO_neg (by omega))]; rfl
theorem dayO_is (y m d : Int) : dayO y m d = if dateB y m d = true then some (dayR y m d) else none := by
 unfold dayO
 cases h : dateB y m d with
 | true => rw [if_pos rfl, if_pos rfl, dayR_yes h]
 | false => rfl
theorem retO_day {y m d : Int} {w w' : World} (hb : Below w.heap.size w w') : RetO (dayO y m d) w (.returned (.tuple #[.int .i64 (dayR y m d), .bool (dateB y m d)])) w' := by
 rw [dayO_is]
 cases h : dateB y m d with
 | true => exact ⟨_, rfl, fun v hv => Option.some.inj hv, hb⟩
 | false => exact ⟨_, rfl, (fun v hv => by cases hv), hb⟩
theorem row3 (w : World) (a b c : Nat) (t : TypeId) : ∀ j, (h : j < [a, b, c].length) -> (w.alloc (.cells #[.int .i64 (a : Int), .int .i64 (b : Int), .int .i64 (c : Int)] t)).cell? ⟨w.heap.size, j, none⟩ = some (.int .i64 (([a, b, c][j] : Nat) : Int)) := by
 intro j hj
 refine (cell_of_row _ _ _ _ _ _ (heap_new w _ rfl)).trans ?_
 match j, hj with
 | 0, _ => rfl
 | 1, _ => rfl
 | 2, _ => rfl
theorem widths3 {a b c : Nat} (ha : 1 <= a /\ a <= 4) (hb : 1 <= b /\ b <= 4) (hc : 1 <= c /\ c <= 4) : widths [a, b, c] := by
 intro j hj
 match j, hj with
 | 0, _ => exact ha
 | 1, _ => exact hb
 | 2, _ => exact hc
def rdN (form pv : Int) (l : List UInt8) : Int := if formB form = true /\ (1 <= pv /\ pv <= 9900) then (readO form pv l).getD 0 else 0
def rdF (form pv : Int) (l : List UInt8) : Int := if formB form = false then 4 else if ¬ (1 <= pv /\ pv <= 9900) then 1 else if (readO form pv l).isSome = true then 0 else 10
end Go.Proofs.YthjlleifpnpfgaaGreatDoor
namespace Go.Proofs.YthjlleifpnpfgaaGreatDoor
open Go.RowKit Limb Work Nmb
set_option linter.unusedVariables false
set_option linter.unusedSimpArgs false
set_option linter.unnecessarySimpa false
end Go.Proofs.YthjlleifpnpfgaaGreatDoor
