/- The walks of package whole: less. Plain facts on units: names in order, the chain from a unit to its base, products that are cancelled. No program in sight. -/
import Derived.Test.YthjlleifpnpfgaaGreatDoorW2
import Derived.WalkSmall
import Derived.Test.YthjlleifpnpfgaaGreatDoorM2
import Derived.Lib.Bytealg
-- merged: W3 U1 U2
namespace Go.Proofs.YthjlleifpnpfgaaGreatDoor
open Go.RowKit Limb
theorem u64w (x : Int) : IntKind.u64.wrap x = x % 18446744073709551616 := by simp [IntKind.wrap, IntKind.bits, IntKind.signed]
theorem sub_digit (p br q : Nat) (hbr : br <= 1) (hp : p < 4294967296) (hq : q < 4294967296) :
  IntKind.u64.wrap (IntKind.u64.wrap ((p : Int) - br) - q) % 4294967296 = ((dig B32 br p q : Nat) : Int) := by
 rw [u64w, u64w]; unfold dig B32; split <;> omega
theorem sub_borrow (p br q : Nat) (hbr : br <= 1) (hp : p < 4294967296) (hq : q < 4294967296) :
  bits BinOp.and IntKind.u64 (IntKind.u64.wrap (IntKind.u64.wrap ((p : Int) - br) - q) / 4294967296) 1 = ((bor br p q : Nat) : Int) := by
 have h : 0 <= IntKind.u64.wrap (IntKind.u64.wrap ((p : Int) - br) - q) /\ IntKind.u64.wrap (IntKind.u64.wrap ((p : Int) - br) - q) <= 18446744073709551615 := by rw [u64w]; omega
 rw [and_one_u64 _ (by omega) (by omega), u64w, u64w]
 unfold bor; split <;> omega
theorem sub_digit0 (p br : Nat) (hbr : br <= 1) (hp : p < 4294967296) : IntKind.u64.wrap ((p : Int) - br) % 4294967296 = ((dig B32 br p 0 : Nat) : Int) := by
 rw [u64w]; unfold dig B32; split <;> omega
theorem sub_borrow0 (p br : Nat) (hbr : br <= 1) (hp : p < 4294967296) : bits BinOp.and IntKind.u64 (IntKind.u64.wrap ((p : Int) - br) / 4294967296) 1 = ((bor br p 0 : Nat) : Int) := by
 have h : 0 <= IntKind.u64.wrap ((p : Int) - br) /\ IntKind.u64.wrap ((p : Int) - br) <= 18446744073709551615 := by rw [u64w]; omega
 rw [and_one_u64 _ (by omega) (by omega), u64w]
 unfold bor; split <;> omega
theorem less_rel {l m os : List Nat} {j br p q : Nat} (hos : os.length = j) (hval : val B32 (l.take j) + B32 ^ j * br = val B32 os + val B32 (m.take j)) (hp : p = dg l j) (hq : q = dg m j) (gos : Digs B32 os) (hbr : br <= 1) (b1 : p < 4294967296) (b2 : q < 4294967296) :
  (os ++ [dig B32 br p q]).length = j + 1 /\ Digs B32 (os ++ [dig B32 br p q]) /\ val B32 (l.take (j + 1)) + B32 ^ (j + 1) * bor br p q = val B32 (os ++ [dig B32 br p q]) + val B32 (m.take (j + 1)) := by
 subst hos
 refine ⟨by simp, gos.snoc (dig_lt hbr b1 b2), ?_⟩
 have h := diff_step hval hbr (b := B32) (p := p) (q := q) b1 b2
 rw [val_take_succ, val_take_succ]
 rw [hp, hq] at h ⊢
 exact h
set_option maxHeartbeats 1000000 in
set_option maxRecDepth 100000 in
theorem less_c (l m : List Nat) (A B : Option Addr) (n c k d : Nat) (w : World) (hd : Dig w .u32 189 A n l) (he : Dig w .u32 189 B k m)
  (gl : Digs B32 l) (gm : Digs B32 m) (hn : n <= 2000) (hkn : k <= n) (hle : val B32 m <= val B32 l) :
  Calls Tryz.prog 208 #[.slice A n c, .slice B k d] w fun e w' => ∃ v os, e = .returned v /\ Row 189 w.heap.size w' v os /\ Digs B32 os /\ Norm os /\ val B32 os = val B32 l - val B32 m /\ Below w.heap.size w w' := by
 have hll := hd.1
 have hml := he.1
 obtain ⟨i0, hi, hz0, hz1, hz2⟩ := info_parts Tryz.info189
 have HL := Lib.hid hle; clear hle
 go_enter Tryz.func208, Tryz.ntmps208
 go_wp2_with (first
   | (at_make; refine wpList_make_own _ rfl _ _ 121 rfl w.heap.size 189 i0 (.int .u32 0) 1 Tryz.underlying121 hi hz0 hz1 .i64 .i64 _ n rfl rfl (by omega) (by rw [hz2]; omega) (by unfold maxLen; omega) (Nat.le_refl _) ?_; intro w1 hown1 hg1))
 have hg0 : Below w.heap.size w w1 := (Below.refl _ _).grown hg1 (Nat.le_refl _) (fun _ h => by cases h)
 go_loopw [5, 6, 15] (fun v cv i wr => ∃ (j br : Nat) (os : List Nat), j <= n /\ i = .int .i64 j /\ cv = .int .u64 br /\ os.length = j /\ v = .slice (some ⟨w.heap.size, 0, none⟩) j n /\
   wr.ownsRow w.heap.size 189 1 (.slice (some ⟨w.heap.size, 0, none⟩) j n) j (digV .u32 os) /\ Digs B32 os /\ br <= 1 /\ val B32 (l.take j) + B32 ^ j * br = val B32 os + val B32 (m.take j) /\ Below w.heap.size w wr)
  (fun _ _ i _ => n - (intOf i).toNat)
 case atStart => exact ⟨0, 0, [], Nat.zero_le _, rfl, rfl, rfl, rfl, hown1, Digs.nil _, by omega, by simp [val], hg0⟩
 case round =>
  obtain ⟨j, br, os, hj, rfl, rfl, hos, rfl, hown, gos, hbr, hval, hbel⟩ := hrel
  have HV := Lib.hid hval; have HO := Lib.hid hos; clear hval hos
  rcases Nat.lt_or_ge j n with hjn | hjn
  ·obtain ⟨g, rfl, hg, hc1⟩ := hd.at_ (by omega)
   have hx := (hbel.cell (p := ⟨g, j, none⟩) hg).trans (hc1 j hjn)
   have b1 : dg l j < 4294967296 := dg_lt gl (by decide) j
   have b2 : dg m j < 4294967296 := dg_lt gm (by decide) j
   have hwr := hbel.size
   clear hc1
   rcases Nat.lt_or_ge j k with hjk | hjk
   ·obtain ⟨g', rfl, hg', hc2⟩ := he.at_ (by omega)
    have hy := (hbel.cell (p := ⟨g', j, none⟩) hg').trans (hc2 j hjk)
    clear hc2
    go_wp2_with (first
     | (at_builtin; refine wpList_push_fits rfl _ _ 121 rfl w.heap.size 189 i0 Tryz.underlying121 hi hz1 w.heap.size j n (digV .u32 os) rfl hown _ rfl rfl (by omega) ?_; intro w2 hown2 hg2))
    go_roundw
    case rel =>
     obtain ⟨r1, r2, r3⟩ := less_rel HO.out HV.out rfl rfl gos hbr b1 b2
     exact ⟨j + 1, bor br (dg l j) (dg m j), os ++ [dig B32 br (dg l j) (dg m j)], by omega, by go_num, congrArg _ (sub_borrow _ _ _ hbr b1 b2), r1, rfl,
      row_cast hown2 (sub_digit _ _ _ hbr b1 b2), r2, bor_le _ _ _, r3, hbel.grown hg2 hwr (by intro g h; injection h with h; omega)⟩
    case measure => simp [intOf]; omega
   ·go_wp2_with (first
     | (at_builtin; refine wpList_push_fits rfl _ _ 121 rfl w.heap.size 189 i0 Tryz.underlying121 hi hz1 w.heap.size j n (digV .u32 os) rfl hown _ rfl rfl (by omega) ?_; intro w2 hown2 hg2))
    go_roundw
    case rel =>
     obtain ⟨r1, r2, r3⟩ := less_rel (q := 0) HO.out HV.out rfl (dg_out (by omega)).symm gos hbr b1 (by omega)
     exact ⟨j + 1, bor br (dg l j) 0, os ++ [dig B32 br (dg l j) 0], by omega, by go_num, congrArg _ (sub_borrow0 _ _ hbr b1), r1, rfl,
      row_cast hown2 (sub_digit0 _ _ hbr b1), r2, bor_le _ _ _, r3, hbel.grown hg2 hwr (by intro g h; injection h with h; omega)⟩
    case measure => simp [intOf]; omega
  ·obtain rfl : j = n := by omega
   have hcap := (own_cap hown).2
   go_wp2_with fail
   refine (trimmed_c os _ j j _ (Dig.of_own hown) (Nat.le_refl _) hcap).mono ?_
   rintro e w' ⟨rfl, q, hq, ht, rfl⟩
   have HT := Lib.hid ht; clear ht
   go_wp2
   go_ret
   have hv := HV.out
   rw [List.take_of_length_le (by omega), List.take_of_length_le (by omega)] at hv
   have hlen : (trim os).length = q := by rw [HT.out, List.length_take, HO.out]; omega
   refine ⟨_, trim os, rfl, ?_, digs_trim gos, norm_trim os, ?_, hbel⟩
   ·unfold Row
    rw [hlen, HT.out]
    exact own_take hown hq
   ·rw [val_trim]
    have hO := HO.out
    rw [<- hO] at hv
    exact diff_end hv gos HL.out
end Go.Proofs.YthjlleifpnpfgaaGreatDoor
namespace Go.Proofs.YthjlleifpnpfgaaGreatDoor
open Go.RowKit
set_option linter.unusedVariables false
set_option linter.unusedSimpArgs false
theorem cb_eq : ∀ {a b : List UInt8}, Lib.compareBytes a b = 0 -> a = b
 | [], [], _ => rfl
 | [], _ :: _, h => by simp [Lib.compareBytes] at h
 | _ :: _, [], h => by simp [Lib.compareBytes] at h
 | x :: a, y :: b, h => by
  unfold Lib.compareBytes at h
  split at h
  ·simp at h
  ·split at h
   ·simp at h
   ·have e : x = y := by
     rename_i h1 h2
     exact UInt8.le_antisymm (UInt8.not_lt.1 h2) (UInt8.not_lt.1 h1)
    rw [e, cb_eq h]
theorem cb_neg : ∀ {a b : List UInt8}, Lib.compareBytes a b = - Lib.compareBytes b a
 | [], [] => rfl
 | [], _ :: _ => by simp [Lib.compareBytes]
 | _ :: _, [] => by simp [Lib.compareBytes]
 | x :: a, y :: b => by
  have ih := cb_neg (a := a) (b := b)
  unfold Lib.compareBytes
  by_cases h1 : x < y
  ·rw [if_pos h1, if_neg (UInt8.lt_asymm h1), if_pos h1]
  ·by_cases h2 : y < x
   ·rw [if_neg h1, if_pos h2, if_pos h2]; rfl
   ·rw [if_neg h1, if_neg h2, if_neg h2, if_neg h1]; exact ih
theorem cb_trans : ∀ {a b c : List UInt8}, Lib.compareBytes a b < 0 -> Lib.compareBytes b c < 0 -> Lib.compareBytes a c < 0
 | [], [], _, h, _ => by simp [Lib.compareBytes] at h
 | [], _ :: _, [], _, h => by simp [Lib.compareBytes] at h
 | [], _ :: _, _ :: _, _, _ => by simp [Lib.compareBytes]
 | _ :: _, [], _, h, _ => by simp [Lib.compareBytes] at h
 | _ :: _, _ :: _, [], _, h => by simp [Lib.compareBytes] at h
 | x :: a, y :: b, z :: c, h1, h2 => by
  unfold Lib.compareBytes at h1 h2 ⊢
  by_cases a1 : x < y
  ·by_cases b1 : y < z
   ·rw [if_pos (UInt8.lt_trans a1 b1)]; decide
   ·rw [if_neg b1] at h2
    by_cases b2 : z < y
    ·rw [if_pos b2] at h2; simp at h2
    ·have e : y = z := UInt8.le_antisymm (UInt8.not_lt.1 b2) (UInt8.not_lt.1 b1)
     rw [<- e, if_pos a1]; decide
  ·rw [if_neg a1] at h1
   by_cases a2 : y < x
   ·rw [if_pos a2] at h1; simp at h1
   ·rw [if_neg a2] at h1
    have e : x = y := UInt8.le_antisymm (UInt8.not_lt.1 a2) (UInt8.not_lt.1 a1)
    rw [e]
    by_cases b1 : y < z
    ·rw [if_pos b1]; decide
    ·rw [if_neg b1] at h2 ⊢
     by_cases b2 : z < y
     ·rw [if_pos b2] at h2; simp at h2
     ·rw [if_neg b2] at h2 ⊢
      exact cb_trans h1 h2
def lowB (c : UInt8) : Bool := decide (97 <= c.toNat /\ c.toNat <= 122)
def nameC (c : UInt8) : Bool := lowB c || decide (48 <= c.toNat /\ c.toNat <= 57) || c.toNat == 45
def nameB (l : List UInt8) : Bool := decide (1 <= l.length /\ l.length <= 40) && lowB (l.headD 0) && l.all nameC
def lowest (P Q : Nat) : Int × Int × Int :=
 if P / Nat.gcd P Q <= 1000000000000000 /\ Q / Nat.gcd P Q <= 1000000000000000 then (((P / Nat.gcd P Q : Nat) : Int), ((Q / Nat.gcd P Q : Nat) : Int), 0) else (0, 0, 1)
end Go.Proofs.YthjlleifpnpfgaaGreatDoor
