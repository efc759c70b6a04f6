/- The walks of package whole: the leaves. What the amounts' functions compute, in plain numbers. No program in sight. -/
import Derived.Test.YtbnjejenejoibaaGreatDoorProg
import Derived.Handy
import Derived.Test.YtbnjejenejoibaaGreatDoorMem
import Derived.Lib.Bytealg
import Derived.Test.YtbnjejenejoibaaGreatDoorShelf
import Derived.Lib.IndexLaws
import Derived.Lib.SlicesS
import Derived.Deep.LoopGhost
import Derived.WalkLawsBesides
-- merged: W1 Spec U1 RW M2 S1
namespace Go.Proofs.YtbnjejenejoibaaGreatDoor
open Go.RowKit Limb
def slen : Value -> Nat | .slice _ n _ => n | _ => 0
theorem trim_take_pos {l : List Nat} {k : Nat} (hk : k < l.length) (h : dg l k ≠ 0) : trim (l.take (k + 1)) = l.take (k + 1) := by
 rw [List.take_succ_eq_append_getElem hk]
 apply trim_snoc_pos
 have := dg_get hk
 rw [List.getElem?_eq_getElem hk] at this
 injection this with this
 rw [this]; exact h
theorem trim_take_zero {l : List Nat} {k : Nat} (hk : k < l.length) (h : dg l k = 0) : trim (l.take (k + 1)) = trim (l.take k) := by
 rw [List.take_succ_eq_append_getElem hk]
 have := dg_get hk
 rw [List.getElem?_eq_getElem hk] at this
 injection this with this
 rw [this, h]
 exact trim_snoc_zero _
set_option maxHeartbeats 400000 in
theorem trimmed_c (l : List Nat) (A : Option Addr) (n c : Nat) (w : World) (hd : Dig w .u32 196 A n l) (hc : n <= c) (hm : c <= maxLen) :
  Calls Tryz.prog 234 #[.slice A n c] w fun e w' => w = w' /\ ∃ k, k <= n /\ trim l = l.take k /\ e = .returned (.slice A k c) := by
 unfold maxLen at hm
 go_enter Tryz.func234, Tryz.ntmps234
 go_wp2
 go_loop [0] (fun v => ∃ k, k <= n /\ v = .slice A k c /\ trim (l.take k) = trim l) (fun v => slen v)
 case atStart => exact ⟨n, Nat.le_refl _, rfl, by rw [List.take_of_length_le (by rw [hd.1]; exact Nat.le_refl _)]⟩
 case round =>
  obtain ⟨k, hk, rfl, ht⟩ := hrel
  have HT := Lib.hid ht; clear ht
  rcases k with _ | k
  ·go_wp2
   go_ret
   exact ⟨rfl, 0, Nat.zero_le _, by rw [<- HT.out, List.take_zero]; rfl, rfl⟩
  ·obtain ⟨g, rfl, hg, hcell⟩ := hd.at_ (by omega)
   have hx := hcell k (by omega)
   clear hcell
   have hl := hd.1
   by_cases h0 : dg l k = 0
   ·go_wp2
    go_round
    case rel => exact ⟨k, by omega, rfl, by rw [<- HT.out, trim_take_zero (by omega) h0]⟩
    case measure => simp [slen]
   ·go_wp2
    go_ret
    exact ⟨rfl, k + 1, by omega, by rw [<- HT.out, trim_take_pos (by omega) h0], rfl⟩
theorem big_of_trim {K : IntKind} {E : TypeId} {b : Nat} {w : World} {A : Option Addr} {n c k : Nat} {l : List Nat} {neg : Bool} (hd : Dig w K E A n l) (hg : Digs b l) (hc : n <= c) (hm : c <= maxLen) (hk : k <= n) (ht : trim l = l.take k) :
  Big K E b w (neg && decide (0 < k)) A k c (sg neg (val b l)) := by
 refine ⟨trim l, by rw [ht]; exact hd.take hk, by omega, hm, digs_trim hg, norm_trim l, ?_, ?_⟩
 ·intro h e
  simp at h
  have := congrArg List.length ht
  rw [e, List.length_take, hd.1] at this
  simp at this
  omega
 ·rw [val_trim]
  rcases Nat.eq_zero_or_pos k with h0 | h0
  ·subst h0
   rw [List.take_zero] at ht
   have : val b l = 0 := by rw [<- val_trim, ht]; rfl
   rw [this]
   cases neg <;> simp [sg]
  ·simp [h0]
set_option maxHeartbeats 400000 in
theorem made_c (l : List Nat) (neg : Bool) (A : Option Addr) (n c : Nat) (w : World) (hd : Dig w .u32 196 A n l) (hc : n <= c) (hm : c <= maxLen) (hg : Digs B32 l) :
  Calls Tryz.prog 189 #[.bool neg, .slice A n c] w (Makes .u32 196 B32 w (sg neg (val B32 l))) := by
 go_enter Tryz.func189, Tryz.ntmps189
 go_wp2_with fail
 refine (trimmed_c l A n c _ (hd.alloc _) hc hm).mono ?_
 rintro e w' ⟨rfl, k, hk, ht, rfl⟩
 have HT := Lib.hid ht; clear ht
 have hk0 : neg = true ∨ neg = false := by cases neg <;> simp
 rcases hk0 with rfl | rfl
 ·go_wp2
  go_returns
  refine ⟨_, _, _, _, rfl, ?_, ?_⟩
  ·exact big_of_trim (neg := true) (hd.alloc _) hg hc hm hk HT.out
  ·go_grown
 ·go_wp2
  go_returns
  refine ⟨_, _, _, _, rfl, ?_, ?_⟩
  ·exact big_of_trim (neg := false) (hd.alloc _) hg hc hm hk HT.out
  ·go_grown
set_option maxHeartbeats 400000 in
theorem of_c (n : Int) (w : World) (h1 : -9223372036854775808 <= n) (h2 : n <= 9223372036854775807) :
  Calls Tryz.prog 132 #[.int .i64 n] w (Makes .u32 196 B32 w n) := by
 by_cases hn : n < 0
 ·obtain ⟨m, hm⟩ : ∃ m : Nat, n = -(m : Int) := ⟨n.natAbs, by omega⟩
  have hu : IntKind.u64.wrap (-IntKind.u64.wrap n) = (m : Int) := by simp only [IntKind.wrap, IntKind.bits, IntKind.signed]; simp; omega
  have HM := Lib.hid hm; have HU := Lib.hid hu; clear hm hu
  go_enter Tryz.func132, Tryz.ntmps132
  go_wp2_with fail
  rw [HU.out]
  refine (made_c [m % B32, m / B32] true _ 2 2 _ (dig_two _ _ (by simp) (limb0 m) (limb1 (by have := HM.out; omega))) (Nat.le_refl _) (by unfold maxLen; omega) (digs_limbs (by have := HM.out; omega))).mono ?_
  rintro e w1 ⟨s1, A1, n1, c1, rfl, hv, hb⟩
  rw [val_limbs] at hv
  have hB : w1.heap[w.heap.size]? = some (.cells #[.bool false, .slice none 0 0] 111 (0, 0)) := heap_below (heap_old (heap_new w _ rfl) _) hb
  obtain ⟨hc0, hc1, hf0, hf1, hz⟩ := box2 hB
  go_wp2
  refine bodyPost_ret (v := .agg #[.bool s1, .slice A1 n1 c1]) (by simp [results, Tryz.results132, go_sem, hc0, hc1]) rfl ⟨s1, A1, n1, c1, rfl, ?_, ?_⟩
  ·have e : sg true m = n := by simp [sg]; exact HM.out.symm
   rw [e] at hv
   exact hv.box2 hB (by decide) _ _
  ·go_grown
   exact below_then hb (by go_grown) (by simp only [World.size_alloc]; omega)
 ·obtain ⟨m, rfl⟩ := Int.eq_ofNat_of_zero_le (by omega : 0 <= n)
  go_enter Tryz.func132, Tryz.ntmps132
  go_wp2_with fail
  refine (made_c [m % B32, m / B32] false _ 2 2 _ (dig_two _ _ (by simp) (limb0 m) (limb1' m)) (Nat.le_refl _) (by unfold maxLen; omega) (digs_limbs (by omega))).mono ?_
  rintro e w1 ⟨s1, A1, n1, c1, rfl, hv, hb⟩
  rw [val_limbs] at hv
  have hB : w1.heap[w.heap.size]? = some (.cells #[.bool false, .slice none 0 0] 111 (0, 0)) := heap_below (heap_old (heap_new w _ rfl) _) hb
  obtain ⟨hc0, hc1, hf0, hf1, hz⟩ := box2 hB
  go_wp2
  refine bodyPost_ret (v := .agg #[.bool s1, .slice A1 n1 c1]) (by simp [results, Tryz.results132, go_sem, hc0, hc1]) rfl ⟨s1, A1, n1, c1, rfl, ?_, ?_⟩
  ·exact hv.box2 hB (by decide) _ _
  ·go_grown
   exact below_then hb (by go_grown) (by simp only [World.size_alloc]; omega)
def decB (u p : Int) : Bool := decide (-1000000000000000 <= u /\ u <= 1000000000000000 /\ 0 <= p /\ p <= 9)
theorem decB_mk {u p : Int} (h : -1000000000000000 <= u /\ u <= 1000000000000000 /\ 0 <= p /\ p <= 9) : decB u p = true := decide_eq_true h
theorem decB_out {u p : Int} (h : decB u p = true) : -1000000000000000 <= u /\ u <= 1000000000000000 /\ 0 <= p /\ p <= 9 := of_decide_eq_true h
def scaled (u p : Int) (q : Nat) : Int := u * ((10 ^ (q - p.toNat) : Nat) : Int)
theorem scaled_bound {u p : Int} {q : Nat} (hu : -1000000000000000 <= u /\ u <= 1000000000000000) (hq : q <= 9) : -1000000000000000000000000 <= scaled u p q /\ scaled u p q <= 1000000000000000000000000 := by
 unfold scaled
 have h1 : 10 ^ (q - p.toNat) <= 10 ^ 9 := Nat.pow_le_pow_right (by omega) (by omega)
 have h0 : 0 < 10 ^ (q - p.toNat) := Nat.pow_pos (by omega)
 generalize 10 ^ (q - p.toNat) = k at *
 have h2 : u * (k : Int) <= 1000000000000000 * k := Int.mul_le_mul_of_nonneg_right hu.2 (by omega)
 have h3 : -1000000000000000 * (k : Int) <= u * k := Int.mul_le_mul_of_nonneg_right hu.1 (by omega)
 omega
def made (z p : Int) : Int × Int × Int := if z.natAbs <= 1000000000000000 then (z, p, 0) else (0, 0, 1)
def RetD (r : Int × Int × Int) (w : World) (e : Ending) (w' : World) : Prop :=
 e = .returned (.tuple #[.agg #[.int .i64 r.1, .int .i64 r.2.1], .int .i64 r.2.2]) /\ Below w.heap.size w w'
end Go.Proofs.YtbnjejenejoibaaGreatDoor
namespace Go.Proofs.YtbnjejenejoibaaGreatDoor
open Go.RowKit
set_option linter.unusedVariables false
set_option linter.unusedSimpArgs false
theorem cb_eq : ∀ {a b : List UInt8}, Lib.compareBytes a b = 0 -> a = b
 | [], [], _ => rfl
 | [], _ :: _, h => by simp [Lib.compareBytes] at h
 | _ :: _, [], h => by simp [Lib.compareBytes] at h
 | x :: a, y :: b, h => by
  unfold Lib.compareBytes at h
  split at h
  ·simp at h
  ·split at h
   ·simp at h
   ·have e : x = y := by
     rename_i h1 h2
     exact UInt8.le_antisymm (UInt8.not_lt.1 h2) (UInt8.not_lt.1 h1)
    rw [e, cb_eq h]
theorem cb_neg : ∀ {a b : List UInt8}, Lib.compareBytes a b = - Lib.compareBytes b a
 | [], [] => rfl
 | [], _ :: _ => by simp [Lib.compareBytes]
 | _ :: _, [] => by simp [Lib.compareBytes]
 | x :: a, y :: b => by
  have ih := cb_neg (a := a) (b := b)
  unfold Lib.compareBytes
  by_cases h1 : x < y
  ·rw [if_pos h1, if_neg (UInt8.lt_asymm h1), if_pos h1]
  ·by_cases h2 : y < x
   ·rw [if_neg h1, if_pos h2, if_pos h2]; rfl
   ·rw [if_neg h1, if_neg h2, if_neg h2, if_neg h1]; exact ih
theorem cb_trans : ∀ {a b c : List UInt8}, Lib.compareBytes a b < 0 -> Lib.compareBytes b c < 0 -> Lib.compareBytes a c < 0
 | [], [], _, h, _ => by simp [Lib.compareBytes] at h
 | [], _ :: _, [], _, h => by simp [Lib.compareBytes] at h
 | [], _ :: _, _ :: _, _, _ => by simp [Lib.compareBytes]
 | _ :: _, [], _, h, _ => by simp [Lib.compareBytes] at h
 | _ :: _, _ :: _, [], _, h => by simp [Lib.compareBytes] at h
 | x :: a, y :: b, z :: c, h1, h2 => by
  unfold Lib.compareBytes at h1 h2 ⊢
  by_cases a1 : x < y
  ·by_cases b1 : y < z
   ·rw [if_pos (UInt8.lt_trans a1 b1)]; decide
   ·rw [if_neg b1] at h2
    by_cases b2 : z < y
    ·rw [if_pos b2] at h2; simp at h2
    ·have e : y = z := UInt8.le_antisymm (UInt8.not_lt.1 b2) (UInt8.not_lt.1 b1)
     rw [<- e, if_pos a1]; decide
  ·rw [if_neg a1] at h1
   by_cases a2 : y < x
   ·rw [if_pos a2] at h1; simp at h1
   ·rw [if_neg a2] at h1
    have e : x = y := UInt8.le_antisymm (UInt8.not_lt.1 a2) (UInt8.not_lt.1 a1)
    rw [e]
    by_cases b1 : y < z
    ·rw [if_pos b1]; decide
    ·rw [if_neg b1] at h2 ⊢
     by_cases b2 : z < y
     ·rw [if_pos b2] at h2; simp at h2
     ·rw [if_neg b2] at h2 ⊢
      exact cb_trans h1 h2
def lowB (c : UInt8) : Bool := decide (97 <= c.toNat /\ c.toNat <= 122)
def nameC (c : UInt8) : Bool := lowB c || decide (48 <= c.toNat /\ c.toNat <= 57) || c.toNat == 45
def nameB (l : List UInt8) : Bool := decide (1 <= l.length /\ l.length <= 40) && lowB (l.headD 0) && l.all nameC
end Go.Proofs.YtbnjejenejoibaaGreatDoor
namespace Go.Proofs.YtbnjejenejoibaaGreatDoor
open Go.RowKit Limb
set_option linter.unusedVariables false
def Rws (w : World) (A : Option Addr) (k n : Nat) (f : Nat -> Nat -> Value) : Prop :=
 0 < n -> ∃ b off, A = some ⟨b, off, none⟩ /\ b < w.heap.size /\ ∀ j, j < n -> ∀ i, i < k -> w.cell? ⟨b, off + j * k + i, none⟩ = some (f j i)
theorem Rws.below {w w' : World} {A : Option Addr} {k n : Nat} {f : Nat -> Nat -> Value} (h : Rws w A k n f) (hb : Below w.heap.size w w') : Rws w' A k n f := fun hn => by
 obtain ⟨b, off, e, hl, hc⟩ := h hn
 exact ⟨b, off, e, Nat.lt_of_lt_of_le hl hb.size, fun j hj i hi => (hb.cell (p := ⟨b, off + j * k + i, none⟩) hl).trans (hc j hj i hi)⟩
theorem Rws.get {w : World} {A : Option Addr} {k n : Nat} {f : Nat -> Nat -> Value} (h : Rws w A k n f) {j : Nat} (hj : j < n) : ∃ b off, A = some ⟨b, off, none⟩ /\ b < w.heap.size /\ ∀ i, i < k -> w.cell? ⟨b, off + j * k + i, none⟩ = some (f j i) := by
 obtain ⟨b, off, e, hl, hc⟩ := h (by omega)
 exact ⟨b, off, e, hl, hc j hj⟩
end Go.Proofs.YtbnjejenejoibaaGreatDoor
namespace Go.Proofs.YtbnjejenejoibaaGreatDoor
open Go.RowKit Limb
set_option linter.unusedVariables false
set_option linter.unusedSimpArgs false
end Go.Proofs.YtbnjejenejoibaaGreatDoor
namespace Go.Proofs.YtbnjejenejoibaaGreatDoor
namespace Stab
set_option linter.unusedVariables false
def swf (f : Nat -> Nat) (i j x : Nat) : Nat := if x = j then f i else if x = i then f j else f x
def swr (f : Nat -> Nat) (a b i x : Nat) : Nat := if a <= x /\ x < a + i then f (b + (x - a)) else if b <= x /\ x < b + i then f (a + (x - b)) else f x
def rot (f : Nat -> Nat) (a m b x : Nat) : Nat := if a <= x /\ x < a + (b - m) then f (x + (m - a)) else if a + (b - m) <= x /\ x < b then f (x - (b - m)) else f x
theorem swr_zero (f : Nat -> Nat) (a b x : Nat) : swr f a b 0 x = f x := by
 unfold swr
 repeat' split
 all_goals first | rfl | (congr 1; omega) | (exfalso; omega)
theorem swr_succ (f : Nat -> Nat) {a b i : Nat} (h : a + i < b) (x : Nat) : swf (swr f a b i) (a + i) (b + i) x = swr f a b (i + 1) x := by
 unfold swf swr
 repeat' split
 all_goals first | rfl | (congr 1; omega) | (exfalso; omega)
theorem rot_eq (f : Nat -> Nat) {m i : Nat} (hi : i <= m) (x : Nat) : swr f (m - i) m i x = rot f (m - i) m (m + i) x := by
 unfold swr rot
 repeat' split
 all_goals first | rfl | (congr 1; omega) | (exfalso; omega)
theorem rot_more (f g : Nat -> Nat) {m i j : Nat} (hi : i <= m) (hij : j < i) (hg : ∀ x, g x = swr f (m - i) m j x) (x : Nat) : rot g (m - (i - j)) m (m + j) x = rot f (m - i) m (m + j) x := by
 unfold rot
 simp only [hg]
 unfold swr
 repeat' split
 all_goals first | rfl | (congr 1; omega) | (exfalso; omega)
theorem rot_less (f g : Nat -> Nat) {m i j : Nat} (hi : i <= m) (hij : i < j) (hg : ∀ x, g x = swr f (m - i) (m + j - i) i x) (x : Nat) : rot g (m - i) m (m + (j - i)) x = rot f (m - i) m (m + j) x := by
 unfold rot
 simp only [hg]
 unfold swr
 repeat' split
 all_goals first | rfl | (congr 1; omega) | (exfalso; omega)
theorem rot_up (f g : Nat -> Nat) {a k : Nat} (hk : a <= k) (hg : ∀ x, g x = rot f a (a + 1) (k + 1) x) (x : Nat) : swf g k (k + 1) x = rot f a (a + 1) (k + 2) x := by
 unfold swf
 simp only [hg]
 unfold rot
 repeat' split
 all_goals first | rfl | (congr 1; omega) | (exfalso; omega)
theorem rot_down (f g : Nat -> Nat) {i m k : Nat} (hk : i < k) (hkm : k <= m) (hg : ∀ x, g x = rot f k m (m + 1) x) (x : Nat) : swf g k (k - 1) x = rot f (k - 1) m (m + 1) x := by
 unfold swf
 simp only [hg]
 unfold rot
 repeat' split
 all_goals first | rfl | (congr 1; omega) | (exfalso; omega)
theorem rot_none (f : Nat -> Nat) (a b x : Nat) : rot f a a b x = f x := by
 unfold rot
 repeat' split
 all_goals first | rfl | (congr 1; omega) | (exfalso; omega)
theorem rot_none' (f : Nat -> Nat) (a b x : Nat) : rot f a b b x = f x := by
 unfold rot
 repeat' split
 all_goals first | rfl | (congr 1; omega) | (exfalso; omega)
def prec (r : Nat -> Nat) (x y : Nat) : Prop := r y < r x ∨ (r x = r y /\ x < y)
theorem prec_ge {r : Nat -> Nat} {x y : Nat} (h : prec r x y) : r y <= r x := by rcases h with h | h <;> omega
def Srt (r f : Nat -> Nat) (a b : Nat) : Prop := ∀ x y, a <= x -> x < y -> y < b -> prec r (f x) (f y)
def Crs (r f : Nat -> Nat) (a m b : Nat) : Prop := ∀ x y, a <= x -> x < m -> m <= y -> y < b -> r (f x) = r (f y) -> f x < f y
def Mrg (r f g : Nat -> Nat) (a b : Nat) : Prop := (∀ x, ¬ (a <= x /\ x < b) -> g x = f x) /\ (∀ x, a <= x -> x < b -> ∃ y, a <= y /\ y < b /\ g x = f y) /\ Srt r g a b
theorem Srt.le {r f : Nat -> Nat} {a b x y : Nat} (h : Srt r f a b) (h1 : a <= x) (h2 : x <= y) (h3 : y < b) : r (f y) <= r (f x) := by
 rcases Nat.lt_or_ge x y with h4 | h4
 ·exact prec_ge (h x y h1 h4 h3)
 ·have : x = y := by omega
  subst this; exact Nat.le_refl _
theorem rot_out {f : Nat -> Nat} {a m b x : Nat} (hm : a <= m) (hb : m <= b) (h : ¬ (a <= x /\ x < b)) : rot f a m b x = f x := by
 unfold rot
 rw [if_neg (by omega), if_neg (by omega)]
theorem rot_l {f : Nat -> Nat} {a m b x : Nat} (h : a <= x /\ x < a + (b - m)) : rot f a m b x = f (x + (m - a)) := if_pos h
theorem rot_r {f : Nat -> Nat} {a m b x : Nat} (h : a + (b - m) <= x /\ x < b) : rot f a m b x = f (x - (b - m)) := by
 unfold rot
 rw [if_neg (by omega), if_pos h]
theorem rot_in {f : Nat -> Nat} {s m e a b : Nat} (hs : a <= s) (hm : s <= m) (he : m <= e) (hb : e <= b) (x : Nat) (h1 : a <= x) (h2 : x < b) : ∃ y, a <= y /\ y < b /\ rot f s m e x = f y := by
 unfold rot
 split
 ·exact ⟨_, by omega, by omega, rfl⟩
 ·split
  ·exact ⟨_, by omega, by omega, rfl⟩
  ·exact ⟨x, h1, h2, rfl⟩
section
variable {r f : Nat -> Nat} {a m b s e : Nat}
theorem rot_srt1 (h1 : Srt r f a m) (hs : a <= s) (hm : s <= m) (he : m <= e) : Srt r (rot f s m e) a s := by
 intro x y hx hxy hy
 rw [rot_out hm he (by omega), rot_out hm he (by omega)]
 exact h1 x y hx hxy (by omega)
theorem rot_srt2 (h2 : Srt r f m b) (hm : s <= m) (he : m <= e) (hb : e <= b) : Srt r (rot f s m e) s (s + (e - m)) := by
 intro x y hx hxy hy
 rw [rot_l (by omega), rot_l (by omega)]
 exact h2 _ _ (by omega) (by omega) (by omega)
theorem rot_srt3 (h1 : Srt r f a m) (hs : a <= s) (hm : s <= m) (he : m <= e) : Srt r (rot f s m e) (s + (e - m)) e := by
 intro x y hx hxy hy
 rw [rot_r (by omega), rot_r (by omega)]
 exact h1 _ _ (by omega) (by omega) (by omega)
theorem rot_srt4 (h2 : Srt r f m b) (hm : s <= m) (he : m <= e) : Srt r (rot f s m e) e b := by
 intro x y hx hxy hy
 rw [rot_out hm he (by omega), rot_out hm he (by omega)]
 exact h2 x y (by omega) hxy hy
theorem rot_crs1 (hc : Crs r f a m b) (hs : a <= s) (hm : s <= m) (he : m <= e) (hb : e <= b) : Crs r (rot f s m e) a s (s + (e - m)) := by
 intro x y hx hxy hy hyb
 rw [rot_out hm he (by omega), rot_l (by omega)]
 exact hc _ _ (by omega) (by omega) (by omega) (by omega)
theorem rot_crs2 (hc : Crs r f a m b) (hs : a <= s) (hm : s <= m) (he : m <= e) : Crs r (rot f s m e) (s + (e - m)) e b := by
 intro x y hx hxy hy hyb
 rw [rot_r (by omega), rot_out hm he (by omega)]
 exact hc _ _ (by omega) (by omega) (by omega) (by omega)
theorem rot_before (h1 : Srt r f a m) (h2 : Srt r f m b) (hc : Crs r f a m b) (hs : a <= s) (hm : s <= m) (he : m <= e) (hb : e <= b)
  (c1 : s < m -> m < e -> r (f s) < r (f (e - 1))) (c2 : a < s -> e < b -> r (f e) <= r (f (s - 1))) :
  ∀ x y, a <= x -> x < s + (e - m) -> s + (e - m) <= y -> y < b -> prec r (rot f s m e x) (rot f s m e y) := by
 intro x y hx hxm hy hyb
 rcases Nat.lt_or_ge x s with hxs | hxs
 ·rw [rot_out hm he (by omega : ¬ (s <= x /\ x < e))]
  rcases Nat.lt_or_ge y e with hye | hye
  ·rw [rot_r (by omega)]
   exact h1 _ _ hx (by omega) (by omega)
  ·rw [rot_out hm he (by omega)]
   have k1 := c2 (by omega) (by omega)
   have k2 := h1.le (x := x) (y := s - 1) hx (by omega) (by omega)
   have k3 := h2.le (x := e) (y := y) he hye hyb
   rcases Nat.lt_or_ge (r (f y)) (r (f x)) with h | h
   ·exact .inl h
   ·exact .inr ⟨by omega, hc x y hx (by omega) (by omega) hyb (by omega)⟩
 ·rw [rot_l (by omega : s <= x /\ x < s + (e - m))]
  rcases Nat.lt_or_ge y e with hye | hye
  ·rw [rot_r (by omega)]
   have k1 := c1 (by omega) (by omega)
   have k2 := h1.le (x := s) (y := y - (e - m)) (by omega) (by omega) (by omega)
   have k3 := h2.le (x := x + (m - s)) (y := e - 1) (by omega) (by omega) (by omega)
   exact .inl (by omega)
  ·rw [rot_out hm he (by omega)]
   exact h2 _ _ (by omega) (by omega) hyb
end
theorem Srt.join {r f : Nat -> Nat} {a m b : Nat} (h1 : Srt r f a m) (h2 : Srt r f m b) (h : ∀ x y, a <= x -> x < m -> m <= y -> y < b -> prec r (f x) (f y)) : Srt r f a b := by
 intro x y hx hxy hy
 rcases Nat.lt_or_ge y m with h3 | h3
 ·exact h1 x y hx hxy h3
 ·rcases Nat.lt_or_ge x m with h4 | h4
  ·exact h x y hx h4 h3 hy
  ·exact h2 x y h4 hxy hy
theorem Mrg.both {r f g h k : Nat -> Nat} {a m b s e d : Nat} (hs : a <= s) (hm : s <= m) (he : m <= e) (hb : e <= b) (hg : ∀ x, g x = rot f s m e x) (had : a <= d) (hdb : d <= b)
  (m1 : Mrg r g h a d) (m2 : Mrg r h k d b) (hp : ∀ x y, a <= x -> x < d -> d <= y -> y < b -> prec r (g x) (g y)) : Mrg r f k a b := by
 refine ⟨fun x hx => ?_, fun x h1 h2 => ?_, ?_⟩
 ·rw [m2.1 x (by omega), m1.1 x (by omega), hg, rot_out hm he (by omega)]
 ·have key : ∃ y, a <= y /\ y < b /\ k x = g y := by
   rcases Nat.lt_or_ge x d with h3 | h3
   ·obtain ⟨y, k1, k2, k3⟩ := m1.2.1 x h1 h3
    exact ⟨y, k1, by omega, by rw [m2.1 x (by omega), k3]⟩
   ·obtain ⟨y, k1, k2, k3⟩ := m2.2.1 x h3 h2
    exact ⟨y, by omega, k2, by rw [k3, m1.1 y (by omega)]⟩
  obtain ⟨y, k1, k2, k3⟩ := key
  obtain ⟨z, l1, l2, l3⟩ := rot_in (f := f) hs hm he hb y k1 k2
  exact ⟨z, l1, l2, by rw [k3, hg, l3]⟩
 ·refine Srt.join (m := d) ?_ m2.2.2 ?_
  ·intro x y hx hxy hy
   rw [m2.1 x (by omega), m2.1 y (by omega)]
   exact m1.2.2 x y hx hxy hy
  ·intro x y hx hxd hy hyb
   obtain ⟨x', k1, k2, k3⟩ := m1.2.1 x hx hxd
   obtain ⟨y', l1, l2, l3⟩ := m2.2.1 y hy hyb
   rw [m2.1 x (by omega), k3, l3, m1.1 y' (by omega)]
   exact hp x' y' k1 k2 l1 l2
theorem Mrg.same {r f : Nat -> Nat} {a b : Nat} (h : Srt r f a b) : Mrg r f f a b := ⟨fun _ _ => rfl, fun x h1 h2 => ⟨x, h1, h2, rfl⟩, h⟩
theorem Mrg.congr {r f g k : Nat -> Nat} {a b : Nat} (h : Mrg r f k a b) (hg : ∀ x, g x = f x) : Mrg r g k a b :=
 ⟨fun x hx => by rw [hg]; exact h.1 x hx, fun x h1 h2 => by obtain ⟨y, k1, k2, k3⟩ := h.2.1 x h1 h2; exact ⟨y, k1, k2, by rw [hg]; exact k3⟩, h.2.2⟩
theorem Srt.of_eq {r f g : Nat -> Nat} {a b : Nat} (h : Srt r f a b) (hg : ∀ x, a <= x -> x < b -> g x = f x) : Srt r g a b := fun x y h1 h2 h3 => by
 rw [hg x h1 (by omega), hg y (by omega) h3]; exact h x y h1 h2 h3
theorem Crs.of_eq {r f g : Nat -> Nat} {a m b : Nat} (h : Crs r f a m b) (hmb : m <= b) (ham : a <= m) (hg : ∀ x, a <= x -> x < b -> g x = f x) : Crs r g a m b := fun x y h1 h2 h3 h4 => by
 rw [hg x h1 (by omega), hg y (by omega) h4]; exact h x y h1 h2 h3 h4
end Stab
end Go.Proofs.YtbnjejenejoibaaGreatDoor
