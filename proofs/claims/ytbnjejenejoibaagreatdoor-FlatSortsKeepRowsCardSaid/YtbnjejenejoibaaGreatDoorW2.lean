
/- The walks of package whole: compare, sum, less. -/
import Derived.Test.YtbnjejenejoibaaGreatDoorS1
import Derived.Deep.QuietTactic
import Derived.BigQuiet
import Derived.Deep.Draws
namespace Go.Proofs.YtbnjejenejoibaaGreatDoor
open Go.RowKit Limb
def Cmp (r : Int) (x y : Nat) : Prop := (r < 0 ↔ x < y) /\ (0 < r ↔ y < x) /\ -9223372036854775807 <= r /\ r <= 9223372036854775807
theorem Cmp.lt {x y : Nat} (h : x < y) : Cmp (-1) x y := by unfold Cmp; omega
theorem Cmp.gt {x y : Nat} (h : y < x) : Cmp 1 x y := by unfold Cmp; omega
theorem Cmp.eq {x y : Nat} (h : x = y) : Cmp 0 x y := by unfold Cmp; omega
def CmpEnd (w : World) (x y : Nat) (e : Ending) (w' : World) : Prop := ∃ r : Int, e = .returned (.int .i64 r) /\ Cmp r x y /\ ∃ q, w' = w.drewN q
theorem dN3 (w : World) (a b c : Nat) : ((w.drewN a).drewN b).drewN c = w.drewN (a + b + c) := by simp [World.drewN_drewN]
theorem cmp_len {b : Nat} (hb : 1 < b) {l m : List Nat} (hl : Digs b l) (hm : Digs b m) (nl : Norm l) (nm : Norm m) (h : l.length ≠ m.length) (h1 : l.length <= maxLen) (h2 : m.length <= maxLen) : Cmp ((l.length : Int) - m.length) (val b l) (val b m) := by
 unfold maxLen at h1 h2
 unfold Cmp
 rcases Nat.lt_or_ge l.length m.length with k | k
 ·have := val_lt_of_len hb hl nm k; omega
 ·have := val_lt_of_len hb hm nl (by omega : m.length < l.length); omega
set_option maxHeartbeats 1000000 in
theorem compare_c (l m : List Nat) (A B : Option Addr) (n c k d : Nat) (w : World) (hd : Dig w .u32 196 A n l) (hc : n <= c) (hm : c <= maxLen) (he : Dig w .u32 196 B k m) (hk : k <= d) (hm2 : d <= maxLen)
  (gl : Digs B32 l) (gm : Digs B32 m) (nl : Norm l) (nm : Norm m) :
  Calls Tryz.prog 191 #[.slice A n c, .slice B k d] w (CmpEnd w (val B32 l) (val B32 m)) := by
 have hll := hd.1
 have hml := he.1
 by_cases hne : n = k
 ·subst hne
  have hne : ((n : Int) != (n : Int)) = false := by simp
  have hm' : n <= 9223372036854775807 := by unfold maxLen at hm; omega
  go_enter Tryz.func191, Tryz.ntmps191
  go_wp2
  go_loopw [5] (fun v wr => ∃ j : Nat, j <= n /\ v = .int .i64 ((j : Int) - 1) /\ l.drop j = m.drop j /\ ∃ q, wr = w.drewN q) (fun v _ => (intOf v + 1).toNat)
  case atStart => exact ⟨n, Nat.le_refl _, rfl, by rw [List.drop_of_length_le (by omega), List.drop_of_length_le (by omega)], 0, rfl⟩
  case round =>
   obtain ⟨j, hj, rfl, hdr, q, rfl⟩ := hrel
   have HD := Lib.hid hdr; clear hdr
   rcases j with _ | j
   ·go_wp2
    go_ret
    exact ⟨0, rfl, Cmp.eq (by have := HD.out; simp at this; rw [this]), q, rfl⟩
   ·have e : ((j + 1 : Nat) : Int) - 1 = (j : Int) := by omega
    rw [e]
    obtain ⟨g, rfl, _, hc1⟩ := hd.at_ (by omega)
    obtain ⟨g', rfl, _, hc2⟩ := he.at_ (by omega)
    have hx := hc1 j (by omega)
    have hy := hc2 j (by omega)
    clear hc1 hc2
    have hlt : (j : Int) < (n : Int) := by omega
    have h0 : (0 : Int) <= (j : Int) := by omega
    by_cases hq : dg l j = dg m j
    ·have hq' : (((dg l j : Nat) : Int) != ((dg m j : Nat) : Int)) = false := by simp [hq]
     have HQ := Lib.hid hq; clear hq
     go_wp2_with fail
     go_quiet (fail)
     go_wp2
     go_roundw
     case rel => exact ⟨j, by omega, rfl, drop_eq_step (by omega) (by omega) HD.out HQ.out, _, rfl⟩
     case measure => simp [intOf]
    ·have hq' : (((dg l j : Nat) : Int) != ((dg m j : Nat) : Int)) = true := by simp; omega
     by_cases hq2 : dg l j < dg m j
     ·have hq3 : (((dg l j : Nat) : Int) < ((dg m j : Nat) : Int)) := by omega
      go_wp2_with fail
      go_quiet (fail)
      go_wp2_with fail
      go_quiet (fail)
      go_wp2
      go_ret
      exact ⟨-1, rfl, Cmp.lt (val_lt_of_digit gl (by omega) (by omega) HD.out hq2), _, dN3 _ _ _ _⟩
     ·have hq3 : ¬ (((dg l j : Nat) : Int) < ((dg m j : Nat) : Int)) := by omega
      go_wp2_with fail
      go_quiet (fail)
      go_wp2_with fail
      go_quiet (fail)
      go_wp2
      go_ret
      exact ⟨1, rfl, Cmp.gt (val_lt_of_digit gm (by omega) (by omega) HD.out.symm (by unfold dg at *; omega)), _, dN3 _ _ _ _⟩
 ·have hne' : ((n : Int) != (k : Int)) = true := by simp; omega
  have H := Lib.hid (cmp_len (b := B32) (by decide) gl gm nl nm (by omega) (by omega) (by omega))
  have hm' : n <= 9223372036854775807 := by unfold maxLen at hm; omega
  have hm2' : k <= 9223372036854775807 := by unfold maxLen at hm2; omega
  subst hll hml
  go_enter Tryz.func191, Tryz.ntmps191
  go_wp2
  go_ret
  exact ⟨_, rfl, H.out, 0, rfl⟩
theorem Tryz.info196 : (Tryz.prog.info? 196).map (fun i => (i.zero, i.size, i.bytes)) = some (some (.int .u32 0), 1, 4) := by kernel_rfl
def Row (E : TypeId) (B : Nat) (w : World) (v : Value) (os : List Nat) : Prop := w.ownsRow B E 1 v os.length (digV .u32 os)
theorem u32_cell {w : World} {E : TypeId} (x : Int) (g : Nat) (hg : g = w.heap.size) : ∀ j u, [Value.int .u32 x][j]? = some u -> (w.alloc (.cells #[.int .u32 x] E)).cell? ((⟨g, 0, none⟩ : Addr).add j) = some u := by
 subst hg
 intro j u hj
 match j, hj with
 | 0, hj => simp at hj; subst hj; simp [Addr.add]
theorem row_cast {w : World} {B : Nat} {E : TypeId} {v : Value} {n : Nat} {os : List Nat} {X : Int} {x : Nat} (h : w.ownsRow B E 1 v n (digV .u32 os ++ [.int .u32 X])) (hx : X = (x : Int)) : w.ownsRow B E 1 v n (digV .u32 (os ++ [x])) := by
 subst hx; rw [digV_snoc]; exact h
theorem sum_rel {l m os : List Nat} {j cy p q : Nat} (hos : os.length = j) (hval : val B32 os + B32 ^ j * cy = val B32 (l.take j) + val B32 (m.take j)) (hp : p = dg l j) (hq : q = dg m j) (gos : Digs B32 os) (hcy : cy <= 1) (b1 : p < 4294967296) (b2 : q < 4294967296) :
  (os ++ [(cy + p + q) % B32]).length = j + 1 /\ Digs B32 (os ++ [(cy + p + q) % B32]) /\ (cy + p + q) / B32 <= 1 /\ val B32 (os ++ [(cy + p + q) % B32]) + B32 ^ (j + 1) * ((cy + p + q) / B32) = val B32 (l.take (j + 1)) + val B32 (m.take (j + 1)) := by
 subst hos
 refine ⟨by simp, gos.snoc (Nat.mod_lt _ (by decide)), carry_le hcy b1 b2, ?_⟩
 rw [sum_step hval, val_take_succ, val_take_succ, hp, hq]
 rfl
set_option maxHeartbeats 1000000 in
set_option maxRecDepth 100000 in
theorem sum_long (l m : List Nat) (A B : Option Addr) (n c k d : Nat) (w : World) (hd : Dig w .u32 196 A n l) (he : Dig w .u32 196 B k m)
  (gl : Digs B32 l) (gm : Digs B32 m) (hn : n <= 1000) (hkn : k <= n) :
  Calls Tryz.prog 190 #[.slice A n c, .slice B k d] w fun e w' => ∃ v os, e = .returned v /\ Row 196 w.heap.size w' v os /\ os.length = n + 1 /\ Digs B32 os /\ val B32 os = val B32 l + val B32 m /\ Below w.heap.size w w' := by
 have hll := hd.1
 have hml := he.1
 obtain ⟨i0, hi, hz0, hz1, hz2⟩ := info_parts Tryz.info196
 have hnk : ¬ n < k := by omega
 go_enter Tryz.func190, Tryz.ntmps190
 go_wp2_with (first
   | (at_make; refine wpList_make_own _ rfl _ _ 109 rfl w.heap.size 196 i0 (.int .u32 0) 1 Tryz.underlying109 hi hz0 hz1 .i64 .i64 _ (n + 1) rfl rfl (by omega) (by rw [hz2]; omega) (by unfold maxLen; omega) (Nat.le_refl _) ?_; intro w1 hown1 hg1))
 have hg0 : Below w.heap.size w w1 := (Below.refl _ _).grown hg1 (Nat.le_refl _) (fun _ h => by cases h)
 go_loopw [6, 5, 22] (fun cv v i wr => ∃ (j cy : Nat) (os : List Nat), j <= n /\ i = .int .i64 j /\ cv = .int .u64 cy /\ os.length = j /\ v = .slice (some ⟨w.heap.size, 0, none⟩) j (n + 1) /\
   wr.ownsRow w.heap.size 196 1 (.slice (some ⟨w.heap.size, 0, none⟩) j (n + 1)) j (digV .u32 os) /\ Digs B32 os /\ cy <= 1 /\ val B32 os + B32 ^ j * cy = val B32 (l.take j) + val B32 (m.take j) /\ Below w.heap.size w wr)
  (fun _ _ i _ => n - (intOf i).toNat)
 case atStart => exact ⟨0, 0, [], Nat.zero_le _, rfl, rfl, rfl, rfl, hown1, Digs.nil _, by omega, by simp [val], hg0⟩
 case round =>
  obtain ⟨j, cy, os, hj, rfl, rfl, hos, rfl, hown, gos, hcy, hval, hbel⟩ := hrel
  have HV := Lib.hid hval; have HO := Lib.hid hos; clear hval hos
  have hcap := (own_cap hown1).2
  rcases Nat.lt_or_ge j n with hjn | hjn
  ·obtain ⟨g, rfl, hg, hc1⟩ := hd.at_ (by omega)
   have hx := (hbel.cell (p := ⟨g, j, none⟩) hg).trans (hc1 j hjn)
   have b1 : dg l j < 4294967296 := dg_lt gl (by decide) j
   have b2 : dg m j < 4294967296 := dg_lt gm (by decide) j
   have hwr := hbel.size
   clear hc1
   rcases Nat.lt_or_ge j k with hjk | hjk
   ·obtain ⟨g', rfl, hg', hc2⟩ := he.at_ (by omega)
    have hy := (hbel.cell (p := ⟨g', j, none⟩) hg').trans (hc2 j hjk)
    clear hc2
    go_wp2_with (first
     | (at_builtin; refine wpList_append_fits _ rfl _ _ 109 rfl w.heap.size 196 i0 1 Tryz.underlying109 hi hz1 w.heap.size j (n + 1) (digV .u32 os) rfl (hown.alloc _) ⟨wr.heap.size, 0, none⟩ 1 1 [.int .u32 (((cy : Int) + (dg l j : Nat) + (dg m j : Nat)) % 4294967296)] rfl rfl ?c1 ?c2 ?c3 ?_))
    case c1 => exact u32_cell _ _ rfl
    case c2 => intro u hu; simp at hu; subst hu; rfl
    case c3 => omega
    intro w2 hown2 hg2
    go_wp2
    go_roundw
    case rel =>
     obtain ⟨r1, r2, r3, r4⟩ := sum_rel HO.out HV.out rfl rfl gos hcy b1 b2
     exact ⟨j + 1, (cy + dg l j + dg m j) / B32, os ++ [(cy + dg l j + dg m j) % B32], by omega, by go_num, congrArg _ (by unfold B32; omega), r1, rfl,
      row_cast hown2 (by unfold B32; omega), r2, r3, r4, (hbel.alloc hwr _).grown hg2 (by simp; omega) (by intro g h; injection h with h; omega)⟩
    case measure => simp [intOf]; omega
   ·go_wp2_with (first
     | (at_builtin; refine wpList_append_fits _ rfl _ _ 109 rfl w.heap.size 196 i0 1 Tryz.underlying109 hi hz1 w.heap.size j (n + 1) (digV .u32 os) rfl (hown.alloc _) ⟨wr.heap.size, 0, none⟩ 1 1 [.int .u32 (((cy : Int) + (dg l j : Nat)) % 4294967296)] rfl rfl ?c1 ?c2 ?c3 ?_))
    case c1 => exact u32_cell _ _ rfl
    case c2 => intro u hu; simp at hu; subst hu; rfl
    case c3 => omega
    intro w2 hown2 hg2
    go_wp2
    go_roundw
    case rel =>
     obtain ⟨r1, r2, r3, r4⟩ := sum_rel (q := 0) HO.out HV.out rfl (dg_out (by omega)).symm gos hcy b1 (by omega)
     exact ⟨j + 1, (cy + dg l j + 0) / B32, os ++ [(cy + dg l j + 0) % B32], by omega, by go_num, congrArg _ (by unfold B32; omega), r1, rfl,
      row_cast hown2 (by unfold B32; omega), r2, r3, r4, (hbel.alloc hwr _).grown hg2 (by simp; omega) (by intro g h; injection h with h; omega)⟩
    case measure => simp [intOf]; omega
  ·obtain rfl : j = n := by omega
   have hwr := hbel.size
   go_wp2_with (first
     | (at_builtin; refine wpList_append_fits _ rfl _ _ 109 rfl w.heap.size 196 i0 1 Tryz.underlying109 hi hz1 w.heap.size j (j + 1) (digV .u32 os) rfl (hown.alloc _) ⟨wr.heap.size, 0, none⟩ 1 1 [.int .u32 (cy : Int)] rfl rfl ?c1 ?c2 ?c3 ?_))
   case c1 => exact u32_cell _ _ rfl
   case c2 => intro u hu; simp at hu; subst hu; rfl
   case c3 => omega
   intro w2 hown2 hg2
   go_wp2
   go_ret
   have e1 : (os ++ [cy]).length = j + 1 := by simp [HO.out]
   refine ⟨_, os ++ [cy], rfl, by unfold Row; rw [e1]; exact row_cast hown2 rfl, e1, gos.snoc (by unfold B32; omega), ?_, (hbel.alloc hwr _).grown hg2 (by simp; omega) (by intro g h; injection h with h; omega)⟩
   have hv := HV.out
   rw [val_snoc, HO.out, hv, List.take_of_length_le (by omega), List.take_of_length_le (by omega)]
set_option maxHeartbeats 1000000 in
set_option maxRecDepth 100000 in
theorem sum_short (l m : List Nat) (A B : Option Addr) (n c k d : Nat) (w : World) (hd : Dig w .u32 196 A n l) (he : Dig w .u32 196 B k m)
  (gl : Digs B32 l) (gm : Digs B32 m) (hn : n <= 1000) (hkn : k < n) :
  Calls Tryz.prog 190 #[.slice B k d, .slice A n c] w fun e w' => ∃ v os, e = .returned v /\ Row 196 w.heap.size w' v os /\ os.length = n + 1 /\ Digs B32 os /\ val B32 os = val B32 l + val B32 m /\ Below w.heap.size w w' := by
 have hll := hd.1
 have hml := he.1
 obtain ⟨i0, hi, hz0, hz1, hz2⟩ := info_parts Tryz.info196
 go_enter Tryz.func190, Tryz.ntmps190
 go_wp2_with (first
   | (at_make; refine wpList_make_own _ rfl _ _ 109 rfl w.heap.size 196 i0 (.int .u32 0) 1 Tryz.underlying109 hi hz0 hz1 .i64 .i64 _ (n + 1) rfl rfl (by omega) (by rw [hz2]; omega) (by unfold maxLen; omega) (Nat.le_refl _) ?_; intro w1 hown1 hg1))
 have hg0 : Below w.heap.size w w1 := (Below.refl _ _).grown hg1 (Nat.le_refl _) (fun _ h => by cases h)
 go_loopw [6, 5, 22] (fun cv v i wr => ∃ (j cy : Nat) (os : List Nat), j <= n /\ i = .int .i64 j /\ cv = .int .u64 cy /\ os.length = j /\ v = .slice (some ⟨w.heap.size, 0, none⟩) j (n + 1) /\
   wr.ownsRow w.heap.size 196 1 (.slice (some ⟨w.heap.size, 0, none⟩) j (n + 1)) j (digV .u32 os) /\ Digs B32 os /\ cy <= 1 /\ val B32 os + B32 ^ j * cy = val B32 (l.take j) + val B32 (m.take j) /\ Below w.heap.size w wr)
  (fun _ _ i _ => n - (intOf i).toNat)
 case atStart => exact ⟨0, 0, [], Nat.zero_le _, rfl, rfl, rfl, rfl, hown1, Digs.nil _, by omega, by simp [val], hg0⟩
 case round =>
  obtain ⟨j, cy, os, hj, rfl, rfl, hos, rfl, hown, gos, hcy, hval, hbel⟩ := hrel
  have HV := Lib.hid hval; have HO := Lib.hid hos; clear hval hos
  have hcap := (own_cap hown1).2
  rcases Nat.lt_or_ge j n with hjn | hjn
  ·obtain ⟨g, rfl, hg, hc1⟩ := hd.at_ (by omega)
   have hx := (hbel.cell (p := ⟨g, j, none⟩) hg).trans (hc1 j hjn)
   have b1 : dg l j < 4294967296 := dg_lt gl (by decide) j
   have b2 : dg m j < 4294967296 := dg_lt gm (by decide) j
   have hwr := hbel.size
   clear hc1
   rcases Nat.lt_or_ge j k with hjk | hjk
   ·obtain ⟨g', rfl, hg', hc2⟩ := he.at_ (by omega)
    have hy := (hbel.cell (p := ⟨g', j, none⟩) hg').trans (hc2 j hjk)
    clear hc2
    go_wp2_with (first
     | (at_builtin; refine wpList_append_fits _ rfl _ _ 109 rfl w.heap.size 196 i0 1 Tryz.underlying109 hi hz1 w.heap.size j (n + 1) (digV .u32 os) rfl (hown.alloc _) ⟨wr.heap.size, 0, none⟩ 1 1 [.int .u32 (((cy : Int) + (dg l j : Nat) + (dg m j : Nat)) % 4294967296)] rfl rfl ?c1 ?c2 ?c3 ?_))
    case c1 => exact u32_cell _ _ rfl
    case c2 => intro u hu; simp at hu; subst hu; rfl
    case c3 => omega
    intro w2 hown2 hg2
    go_wp2
    go_roundw
    case rel =>
     obtain ⟨r1, r2, r3, r4⟩ := sum_rel HO.out HV.out rfl rfl gos hcy b1 b2
     exact ⟨j + 1, (cy + dg l j + dg m j) / B32, os ++ [(cy + dg l j + dg m j) % B32], by omega, by go_num, congrArg _ (by unfold B32; omega), r1, rfl,
      row_cast hown2 (by unfold B32; omega), r2, r3, r4, (hbel.alloc hwr _).grown hg2 (by simp; omega) (by intro g h; injection h with h; omega)⟩
    case measure => simp [intOf]; omega
   ·go_wp2_with (first
     | (at_builtin; refine wpList_append_fits _ rfl _ _ 109 rfl w.heap.size 196 i0 1 Tryz.underlying109 hi hz1 w.heap.size j (n + 1) (digV .u32 os) rfl (hown.alloc _) ⟨wr.heap.size, 0, none⟩ 1 1 [.int .u32 (((cy : Int) + (dg l j : Nat)) % 4294967296)] rfl rfl ?c1 ?c2 ?c3 ?_))
    case c1 => exact u32_cell _ _ rfl
    case c2 => intro u hu; simp at hu; subst hu; rfl
    case c3 => omega
    intro w2 hown2 hg2
    go_wp2
    go_roundw
    case rel =>
     obtain ⟨r1, r2, r3, r4⟩ := sum_rel (q := 0) HO.out HV.out rfl (dg_out (by omega)).symm gos hcy b1 (by omega)
     exact ⟨j + 1, (cy + dg l j + 0) / B32, os ++ [(cy + dg l j + 0) % B32], by omega, by go_num, congrArg _ (by unfold B32; omega), r1, rfl,
      row_cast hown2 (by unfold B32; omega), r2, r3, r4, (hbel.alloc hwr _).grown hg2 (by simp; omega) (by intro g h; injection h with h; omega)⟩
    case measure => simp [intOf]; omega
  ·obtain rfl : j = n := by omega
   have hwr := hbel.size
   go_wp2_with (first
     | (at_builtin; refine wpList_append_fits _ rfl _ _ 109 rfl w.heap.size 196 i0 1 Tryz.underlying109 hi hz1 w.heap.size j (j + 1) (digV .u32 os) rfl (hown.alloc _) ⟨wr.heap.size, 0, none⟩ 1 1 [.int .u32 (cy : Int)] rfl rfl ?c1 ?c2 ?c3 ?_))
   case c1 => exact u32_cell _ _ rfl
   case c2 => intro u hu; simp at hu; subst hu; rfl
   case c3 => omega
   intro w2 hown2 hg2
   go_wp2
   go_ret
   have e1 : (os ++ [cy]).length = j + 1 := by simp [HO.out]
   refine ⟨_, os ++ [cy], rfl, by unfold Row; rw [e1]; exact row_cast hown2 rfl, e1, gos.snoc (by unfold B32; omega), ?_, (hbel.alloc hwr _).grown hg2 (by simp; omega) (by intro g h; injection h with h; omega)⟩
   have hv := HV.out
   rw [val_snoc, HO.out, hv, List.take_of_length_le (by omega), List.take_of_length_le (by omega)]
theorem sum_c (l m : List Nat) (A B : Option Addr) (n c k d : Nat) (w : World) (hd : Dig w .u32 196 A n l) (he : Dig w .u32 196 B k m)
  (gl : Digs B32 l) (gm : Digs B32 m) (hn : n <= 1000) (hk : k <= 1000) :
  Calls Tryz.prog 190 #[.slice A n c, .slice B k d] w fun e w' => ∃ v os, e = .returned v /\ Row 196 w.heap.size w' v os /\ 0 < os.length /\ os.length <= 1001 /\ Digs B32 os /\ val B32 os = val B32 l + val B32 m /\ Below w.heap.size w w' := by
 rcases Nat.lt_or_ge n k with h | h
 ·refine (sum_short m l B A k d n c w he hd gm gl hk h).mono ?_
  rintro e w' ⟨v, os, rfl, h1, h2, h3, h4, h5⟩
  exact ⟨v, os, rfl, h1, by omega, by omega, h3, by omega, h5⟩
 ·refine (sum_long l m A B n c k d w hd he gl gm hn h).mono ?_
  rintro e w' ⟨v, os, rfl, h1, h2, h3, h4, h5⟩
  exact ⟨v, os, rfl, h1, by omega, by omega, h3, by omega, h5⟩
end Go.Proofs.YtbnjejenejoibaaGreatDoor
