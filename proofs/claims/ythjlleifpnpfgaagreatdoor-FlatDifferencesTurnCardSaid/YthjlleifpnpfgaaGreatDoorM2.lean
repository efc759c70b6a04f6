/- The walks of package whole: the leaves. What the amounts' functions compute, in plain numbers. No program in sight. -/
import Derived.Test.YthjlleifpnpfgaaGreatDoorProg
import Derived.Handy
import Derived.Test.YthjlleifpnpfgaaGreatDoorMem
import Derived.Test.YthjlleifpnpfgaaGreatDoorShelf
import Derived.Lib.IndexLaws
import Derived.Lib.SlicesS
import Derived.Deep.LoopGhost
import Derived.WalkLawsBesides
-- merged: W1 Spec RW M2
namespace Go.Proofs.YthjlleifpnpfgaaGreatDoor
open Go.RowKit Limb
def slen : Value -> Nat | .slice _ n _ => n | _ => 0
theorem trim_take_pos {l : List Nat} {k : Nat} (hk : k < l.length) (h : dg l k ≠ 0) : trim (l.take (k + 1)) = l.take (k + 1) := by
 rw [List.take_succ_eq_append_getElem hk]
 apply trim_snoc_pos
 have := dg_get hk
 rw [List.getElem?_eq_getElem hk] at this
 injection this with this
 rw [this]; exact h
theorem trim_take_zero {l : List Nat} {k : Nat} (hk : k < l.length) (h : dg l k = 0) : trim (l.take (k + 1)) = trim (l.take k) := by
 rw [List.take_succ_eq_append_getElem hk]
 have := dg_get hk
 rw [List.getElem?_eq_getElem hk] at this
 injection this with this
 rw [this, h]
 exact trim_snoc_zero _
set_option maxHeartbeats 400000 in
theorem trimmed_c (l : List Nat) (A : Option Addr) (n c : Nat) (w : World) (hd : Dig w .u32 189 A n l) (hc : n <= c) (hm : c <= maxLen) :
  Calls Tryz.prog 237 #[.slice A n c] w fun e w' => w = w' /\ ∃ k, k <= n /\ trim l = l.take k /\ e = .returned (.slice A k c) := by
 unfold maxLen at hm
 go_enter Tryz.func237, Tryz.ntmps237
 go_wp2
 go_loop [0] (fun v => ∃ k, k <= n /\ v = .slice A k c /\ trim (l.take k) = trim l) (fun v => slen v)
 case atStart => exact ⟨n, Nat.le_refl _, rfl, by rw [List.take_of_length_le (by rw [hd.1]; exact Nat.le_refl _)]⟩
 case round =>
  obtain ⟨k, hk, rfl, ht⟩ := hrel
  have HT := Lib.hid ht; clear ht
  rcases k with _ | k
  ·go_wp2
   go_ret
   exact ⟨rfl, 0, Nat.zero_le _, by rw [<- HT.out, List.take_zero]; rfl, rfl⟩
  ·obtain ⟨g, rfl, hg, hcell⟩ := hd.at_ (by omega)
   have hx := hcell k (by omega)
   clear hcell
   have hl := hd.1
   by_cases h0 : dg l k = 0
   ·go_wp2
    go_round
    case rel => exact ⟨k, by omega, rfl, by rw [<- HT.out, trim_take_zero (by omega) h0]⟩
    case measure => simp [slen]
   ·go_wp2
    go_ret
    exact ⟨rfl, k + 1, by omega, by rw [<- HT.out, trim_take_pos (by omega) h0], rfl⟩
theorem big_of_trim {K : IntKind} {E : TypeId} {b : Nat} {w : World} {A : Option Addr} {n c k : Nat} {l : List Nat} {neg : Bool} (hd : Dig w K E A n l) (hg : Digs b l) (hc : n <= c) (hm : c <= maxLen) (hk : k <= n) (ht : trim l = l.take k) :
  Big K E b w (neg && decide (0 < k)) A k c (sg neg (val b l)) := by
 refine ⟨trim l, by rw [ht]; exact hd.take hk, by omega, hm, digs_trim hg, norm_trim l, ?_, ?_⟩
 ·intro h e
  simp at h
  have := congrArg List.length ht
  rw [e, List.length_take, hd.1] at this
  simp at this
  omega
 ·rw [val_trim]
  rcases Nat.eq_zero_or_pos k with h0 | h0
  ·subst h0
   rw [List.take_zero] at ht
   have : val b l = 0 := by rw [<- val_trim, ht]; rfl
   rw [this]
   cases neg <;> simp [sg]
  ·simp [h0]
set_option maxHeartbeats 400000 in
theorem made_c (l : List Nat) (neg : Bool) (A : Option Addr) (n c : Nat) (w : World) (hd : Dig w .u32 189 A n l) (hc : n <= c) (hm : c <= maxLen) (hg : Digs B32 l) :
  Calls Tryz.prog 205 #[.bool neg, .slice A n c] w (Makes .u32 189 B32 w (sg neg (val B32 l))) := by
 go_enter Tryz.func205, Tryz.ntmps205
 go_wp2_with fail
 refine (trimmed_c l A n c _ (hd.alloc _) hc hm).mono ?_
 rintro e w' ⟨rfl, k, hk, ht, rfl⟩
 have HT := Lib.hid ht; clear ht
 have hk0 : neg = true ∨ neg = false := by cases neg <;> simp
 rcases hk0 with rfl | rfl
 ·go_wp2
  go_returns
  refine ⟨_, _, _, _, rfl, ?_, ?_⟩
  ·exact big_of_trim (neg := true) (hd.alloc _) hg hc hm hk HT.out
  ·go_grown
 ·go_wp2
  go_returns
  refine ⟨_, _, _, _, rfl, ?_, ?_⟩
  ·exact big_of_trim (neg := false) (hd.alloc _) hg hc hm hk HT.out
  ·go_grown
set_option maxHeartbeats 400000 in
theorem of_c (n : Int) (w : World) (h1 : -9223372036854775808 <= n) (h2 : n <= 9223372036854775807) :
  Calls Tryz.prog 155 #[.int .i64 n] w (Makes .u32 189 B32 w n) := by
 by_cases hn : n < 0
 ·obtain ⟨m, hm⟩ : ∃ m : Nat, n = -(m : Int) := ⟨n.natAbs, by omega⟩
  have hu : IntKind.u64.wrap (-IntKind.u64.wrap n) = (m : Int) := by simp only [IntKind.wrap, IntKind.bits, IntKind.signed]; simp; omega
  have HM := Lib.hid hm; have HU := Lib.hid hu; clear hm hu
  go_enter Tryz.func155, Tryz.ntmps155
  go_wp2_with fail
  rw [HU.out]
  refine (made_c [m % B32, m / B32] true _ 2 2 _ (dig_two _ _ (by simp) (limb0 m) (limb1 (by have := HM.out; omega))) (Nat.le_refl _) (by unfold maxLen; omega) (digs_limbs (by have := HM.out; omega))).mono ?_
  rintro e w1 ⟨s1, A1, n1, c1, rfl, hv, hb⟩
  rw [val_limbs] at hv
  have hB : w1.heap[w.heap.size]? = some (.cells #[.bool false, .slice none 0 0] 123 (0, 0)) := heap_below (heap_old (heap_new w _ rfl) _) hb
  obtain ⟨hc0, hc1, hf0, hf1, hz⟩ := box2 hB
  go_wp2
  refine bodyPost_ret (v := .agg #[.bool s1, .slice A1 n1 c1]) (by simp [results, Tryz.results155, go_sem, hc0, hc1]) rfl ⟨s1, A1, n1, c1, rfl, ?_, ?_⟩
  ·have e : sg true m = n := by simp [sg]; exact HM.out.symm
   rw [e] at hv
   exact hv.box2 hB (by decide) _ _
  ·go_grown
   exact below_then hb (by go_grown) (by simp only [World.size_alloc]; omega)
 ·obtain ⟨m, rfl⟩ := Int.eq_ofNat_of_zero_le (by omega : 0 <= n)
  go_enter Tryz.func155, Tryz.ntmps155
  go_wp2_with fail
  refine (made_c [m % B32, m / B32] false _ 2 2 _ (dig_two _ _ (by simp) (limb0 m) (limb1' m)) (Nat.le_refl _) (by unfold maxLen; omega) (digs_limbs (by omega))).mono ?_
  rintro e w1 ⟨s1, A1, n1, c1, rfl, hv, hb⟩
  rw [val_limbs] at hv
  have hB : w1.heap[w.heap.size]? = some (.cells #[.bool false, .slice none 0 0] 123 (0, 0)) := heap_below (heap_old (heap_new w _ rfl) _) hb
  obtain ⟨hc0, hc1, hf0, hf1, hz⟩ := box2 hB
  go_wp2
  refine bodyPost_ret (v := .agg #[.bool s1, .slice A1 n1 c1]) (by simp [results, Tryz.results155, go_sem, hc0, hc1]) rfl ⟨s1, A1, n1, c1, rfl, ?_, ?_⟩
  ·exact hv.box2 hB (by decide) _ _
  ·go_grown
   exact below_then hb (by go_grown) (by simp only [World.size_alloc]; omega)
def decB (u p : Int) : Bool := decide (-1000000000000000 <= u /\ u <= 1000000000000000 /\ 0 <= p /\ p <= 9)
theorem decB_mk {u p : Int} (h : -1000000000000000 <= u /\ u <= 1000000000000000 /\ 0 <= p /\ p <= 9) : decB u p = true := decide_eq_true h
theorem decB_out {u p : Int} (h : decB u p = true) : -1000000000000000 <= u /\ u <= 1000000000000000 /\ 0 <= p /\ p <= 9 := of_decide_eq_true h
def scaled (u p : Int) (q : Nat) : Int := u * ((10 ^ (q - p.toNat) : Nat) : Int)
theorem scaled_bound {u p : Int} {q : Nat} (hu : -1000000000000000 <= u /\ u <= 1000000000000000) (hq : q <= 9) : -1000000000000000000000000 <= scaled u p q /\ scaled u p q <= 1000000000000000000000000 := by
 unfold scaled
 have h1 : 10 ^ (q - p.toNat) <= 10 ^ 9 := Nat.pow_le_pow_right (by omega) (by omega)
 have h0 : 0 < 10 ^ (q - p.toNat) := Nat.pow_pos (by omega)
 generalize 10 ^ (q - p.toNat) = k at *
 have h2 : u * (k : Int) <= 1000000000000000 * k := Int.mul_le_mul_of_nonneg_right hu.2 (by omega)
 have h3 : -1000000000000000 * (k : Int) <= u * k := Int.mul_le_mul_of_nonneg_right hu.1 (by omega)
 omega
def made (z p : Int) : Int × Int × Int := if z.natAbs <= 1000000000000000 then (z, p, 0) else (0, 0, 1)
def RetD (r : Int × Int × Int) (w : World) (e : Ending) (w' : World) : Prop :=
 e = .returned (.tuple #[.agg #[.int .i64 r.1, .int .i64 r.2.1], .int .i64 r.2.2]) /\ Below w.heap.size w w'
end Go.Proofs.YthjlleifpnpfgaaGreatDoor
namespace Go.Proofs.YthjlleifpnpfgaaGreatDoor
open Go.RowKit Limb
set_option linter.unusedVariables false
def Rws (w : World) (A : Option Addr) (k n : Nat) (f : Nat -> Nat -> Value) : Prop :=
 0 < n -> ∃ b off, A = some ⟨b, off, none⟩ /\ b < w.heap.size /\ ∀ j, j < n -> ∀ i, i < k -> w.cell? ⟨b, off + j * k + i, none⟩ = some (f j i)
theorem Rws.below {w w' : World} {A : Option Addr} {k n : Nat} {f : Nat -> Nat -> Value} (h : Rws w A k n f) (hb : Below w.heap.size w w') : Rws w' A k n f := fun hn => by
 obtain ⟨b, off, e, hl, hc⟩ := h hn
 exact ⟨b, off, e, Nat.lt_of_lt_of_le hl hb.size, fun j hj i hi => (hb.cell (p := ⟨b, off + j * k + i, none⟩) hl).trans (hc j hj i hi)⟩
theorem Rws.get {w : World} {A : Option Addr} {k n : Nat} {f : Nat -> Nat -> Value} (h : Rws w A k n f) {j : Nat} (hj : j < n) : ∃ b off, A = some ⟨b, off, none⟩ /\ b < w.heap.size /\ ∀ i, i < k -> w.cell? ⟨b, off + j * k + i, none⟩ = some (f j i) := by
 obtain ⟨b, off, e, hl, hc⟩ := h (by omega)
 exact ⟨b, off, e, hl, hc j hj⟩
end Go.Proofs.YthjlleifpnpfgaaGreatDoor
namespace Go.Proofs.YthjlleifpnpfgaaGreatDoor
open Go.RowKit Limb
set_option linter.unusedVariables false
set_option linter.unusedSimpArgs false
end Go.Proofs.YthjlleifpnpfgaaGreatDoor
