/- The walks of package whole: the leaves. The walks of package whole: compare, sum, less. The walks of package whole: less. The walks of package whole: Plus and what stands on it. The walks of package whole: Sign, Minus, Abs, Less, Compare, Odd, Int. The walk of package whole: Times. The walk of package whole: By. The walks of package whole: Odd, Int, Power. The walk of package whole: Power. -/
import Derived.Test.YtcfhaljkemaefaaGreatDoorProg
import Derived.Handy
import Derived.Test.YtcfhaljkemaefaaGreatDoorMem
import Derived.Deep.QuietTactic
import Derived.BigQuiet
import Derived.Deep.Draws
import Derived.WalkSmall
import Derived.Deep.RegionHeld3
import Derived.Deep.RegionWith
-- merged: W1 W2 W3 W4 W5 W6 W7 W8 W9

namespace Go.Proofs.YtcfhaljkemaefaaGreatDoor
open Go.RowKit Limb

def slen : Value → Nat | .slice _ n _ => n | _ => 0

theorem trim_take_pos {l : List Nat} {k : Nat} (hk : k < l.length) (h : dg l k ≠ 0) : trim (l.take (k + 1)) = l.take (k + 1) := by
  rw [List.take_succ_eq_append_getElem hk]
  apply trim_snoc_pos
  have := dg_get hk
  rw [List.getElem?_eq_getElem hk] at this
  injection this with this
  rw [this]; exact h
theorem trim_take_zero {l : List Nat} {k : Nat} (hk : k < l.length) (h : dg l k = 0) : trim (l.take (k + 1)) = trim (l.take k) := by
  rw [List.take_succ_eq_append_getElem hk]
  have := dg_get hk
  rw [List.getElem?_eq_getElem hk] at this
  injection this with this
  rw [this, h]
  exact trim_snoc_zero _

set_option maxHeartbeats 400000 in
theorem trimmed_c (l : List Nat) (A : Option Addr) (n c : Nat) (w : World) (hd : Dig w .u32 110 A n l) (hc : n ≤ c) (hm : c ≤ maxLen) :
    Calls Tryz.prog 103 #[.slice A n c] w fun e w' => w = w' ∧ ∃ k, k ≤ n ∧ trim l = l.take k ∧ e = .returned (.slice A k c) := by
  unfold maxLen at hm
  go_enter Tryz.func103, Tryz.ntmps103
  go_wp2
  go_loop [0] (fun v => ∃ k, k ≤ n ∧ v = .slice A k c ∧ trim (l.take k) = trim l) (fun v => slen v)
  case atStart => exact ⟨n, Nat.le_refl _, rfl, by rw [List.take_of_length_le (by rw [hd.1]; exact Nat.le_refl _)]⟩
  case round =>
    obtain ⟨k, hk, rfl, ht⟩ := hrel
    have HT := Lib.hid ht; clear ht
    rcases k with _ | k
    · go_wp2
      go_ret
      exact ⟨rfl, 0, Nat.zero_le _, by rw [← HT.out, List.take_zero]; rfl, rfl⟩
    · obtain ⟨g, rfl, hg, hcell⟩ := hd.at_ (by omega)
      have hx := hcell k (by omega)
      clear hcell
      have hl := hd.1
      by_cases h0 : dg l k = 0
      · go_wp2
        go_round
        case rel => exact ⟨k, by omega, rfl, by rw [← HT.out, trim_take_zero (by omega) h0]⟩
        case measure => simp [slen]
      · go_wp2
        go_ret
        exact ⟨rfl, k + 1, by omega, by rw [← HT.out, trim_take_pos (by omega) h0], rfl⟩

/-- What 'made' makes. -/
theorem big_of_trim {K : IntKind} {E : TypeId} {b : Nat} {w : World} {A : Option Addr} {n c k : Nat} {l : List Nat} {neg : Bool} (hd : Dig w K E A n l) (hg : Digs b l) (hc : n ≤ c) (hm : c ≤ maxLen) (hk : k ≤ n) (ht : trim l = l.take k) :
    Big K E b w (neg && decide (0 < k)) A k c (sg neg (val b l)) := by
  refine ⟨trim l, by rw [ht]; exact hd.take hk, by omega, hm, digs_trim hg, norm_trim l, ?_, ?_⟩
  · intro h e
    simp at h
    have := congrArg List.length ht
    rw [e, List.length_take, hd.1] at this
    simp at this
    omega
  · rw [val_trim]
    rcases Nat.eq_zero_or_pos k with h0 | h0
    · subst h0
      rw [List.take_zero] at ht
      have : val b l = 0 := by rw [← val_trim, ht]; rfl
      rw [this]
      cases neg <;> simp [sg]
    · simp [h0]

set_option maxHeartbeats 400000 in
theorem made_c (l : List Nat) (neg : Bool) (A : Option Addr) (n c : Nat) (w : World) (hd : Dig w .u32 110 A n l) (hc : n ≤ c) (hm : c ≤ maxLen) (hg : Digs B32 l) :
    Calls Tryz.prog 77 #[.bool neg, .slice A n c] w (Makes .u32 110 B32 w (sg neg (val B32 l))) := by
  go_enter Tryz.func77, Tryz.ntmps77
  go_wp2_with fail
  refine (trimmed_c l A n c _ (hd.alloc _) hc hm).mono ?_
  rintro e w' ⟨rfl, k, hk, ht, rfl⟩
  have HT := Lib.hid ht; clear ht
  have hk0 : neg = true ∨ neg = false := by cases neg <;> simp
  rcases hk0 with rfl | rfl
  · go_wp2
    go_returns
    refine ⟨_, _, _, _, rfl, ?_, ?_⟩
    · exact big_of_trim (neg := true) (hd.alloc _) hg hc hm hk HT.out
    · go_grown
  · go_wp2
    go_returns
    refine ⟨_, _, _, _, rfl, ?_, ?_⟩
    · exact big_of_trim (neg := false) (hd.alloc _) hg hc hm hk HT.out
    · go_grown

set_option maxHeartbeats 400000 in
theorem of_c (n : Int) (w : World) (h1 : -9223372036854775808 ≤ n) (h2 : n ≤ 9223372036854775807) :
    Calls Tryz.prog 48 #[.int .i64 n] w (Makes .u32 110 B32 w n) := by
  by_cases hn : n < 0
  · obtain ⟨m, hm⟩ : ∃ m : Nat, n = -(m : Int) := ⟨n.natAbs, by omega⟩
    have hu : IntKind.u64.wrap (-IntKind.u64.wrap n) = (m : Int) := by simp only [IntKind.wrap, IntKind.bits, IntKind.signed]; simp; omega
    have HM := Lib.hid hm; have HU := Lib.hid hu; clear hm hu
    go_enter Tryz.func48, Tryz.ntmps48
    go_wp2_with fail
    rw [HU.out]
    refine (made_c [m % B32, m / B32] true _ 2 2 _ (dig_two _ _ (by simp) (limb0 m) (limb1 (by have := HM.out; omega))) (Nat.le_refl _) (by unfold maxLen; omega) (digs_limbs (by have := HM.out; omega))).mono ?_
    rintro e w1 ⟨s1, A1, n1, c1, rfl, hv, hb⟩
    rw [val_limbs] at hv
    have hB : w1.heap[w.heap.size]? = some (.cells #[.bool false, .slice none 0 0] 91 (0, 0)) := heap_below (heap_old (heap_new w _ rfl) _) hb
    obtain ⟨hc0, hc1, hf0, hf1, hz⟩ := box2 hB
    go_wp2
    refine bodyPost_ret (v := .agg #[.bool s1, .slice A1 n1 c1]) (by simp [results, Tryz.results48, go_sem, hc0, hc1]) rfl ⟨s1, A1, n1, c1, rfl, ?_, ?_⟩
    · have e : sg true m = n := by simp [sg]; exact HM.out.symm
      rw [e] at hv
      exact hv.box2 hB (by decide) _ _
    · go_grown
      exact below_then hb (by go_grown) (by simp only [World.size_alloc]; omega)
  · obtain ⟨m, rfl⟩ := Int.eq_ofNat_of_zero_le (by omega : 0 ≤ n)
    go_enter Tryz.func48, Tryz.ntmps48
    go_wp2_with fail
    refine (made_c [m % B32, m / B32] false _ 2 2 _ (dig_two _ _ (by simp) (limb0 m) (limb1' m)) (Nat.le_refl _) (by unfold maxLen; omega) (digs_limbs (by omega))).mono ?_
    rintro e w1 ⟨s1, A1, n1, c1, rfl, hv, hb⟩
    rw [val_limbs] at hv
    have hB : w1.heap[w.heap.size]? = some (.cells #[.bool false, .slice none 0 0] 91 (0, 0)) := heap_below (heap_old (heap_new w _ rfl) _) hb
    obtain ⟨hc0, hc1, hf0, hf1, hz⟩ := box2 hB
    go_wp2
    refine bodyPost_ret (v := .agg #[.bool s1, .slice A1 n1 c1]) (by simp [results, Tryz.results48, go_sem, hc0, hc1]) rfl ⟨s1, A1, n1, c1, rfl, ?_, ?_⟩
    · exact hv.box2 hB (by decide) _ _
    · go_grown
      exact below_then hb (by go_grown) (by simp only [World.size_alloc]; omega)

end Go.Proofs.YtcfhaljkemaefaaGreatDoor

namespace Go.Proofs.YtcfhaljkemaefaaGreatDoor
open Go.RowKit Limb

/-- What compare's number says. -/
def Cmp (r : Int) (x y : Nat) : Prop := (r < 0 ↔ x < y) ∧ (0 < r ↔ y < x) ∧ -9223372036854775807 ≤ r ∧ r ≤ 9223372036854775807
theorem Cmp.lt {x y : Nat} (h : x < y) : Cmp (-1) x y := by unfold Cmp; omega
theorem Cmp.gt {x y : Nat} (h : y < x) : Cmp 1 x y := by unfold Cmp; omega
theorem Cmp.eq {x y : Nat} (h : x = y) : Cmp 0 x y := by unfold Cmp; omega
def CmpEnd (w : World) (x y : Nat) (e : Ending) (w' : World) : Prop := ∃ r : Int, e = .returned (.int .i64 r) ∧ Cmp r x y ∧ ∃ q, w' = w.drewN q

theorem dN3 (w : World) (a b c : Nat) : ((w.drewN a).drewN b).drewN c = w.drewN (a + b + c) := by simp [World.drewN_drewN]

theorem cmp_len {b : Nat} (hb : 1 < b) {l m : List Nat} (hl : Digs b l) (hm : Digs b m) (nl : Norm l) (nm : Norm m) (h : l.length ≠ m.length) (h1 : l.length ≤ maxLen) (h2 : m.length ≤ maxLen) : Cmp ((l.length : Int) - m.length) (val b l) (val b m) := by
  unfold maxLen at h1 h2
  unfold Cmp
  rcases Nat.lt_or_ge l.length m.length with k | k
  · have := val_lt_of_len hb hl nm k; omega
  · have := val_lt_of_len hb hm nl (by omega : m.length < l.length); omega

set_option maxHeartbeats 1000000 in
theorem compare_c (l m : List Nat) (A B : Option Addr) (n c k d : Nat) (w : World) (hd : Dig w .u32 110 A n l) (hc : n ≤ c) (hm : c ≤ maxLen) (he : Dig w .u32 110 B k m) (hk : k ≤ d) (hm2 : d ≤ maxLen)
    (gl : Digs B32 l) (gm : Digs B32 m) (nl : Norm l) (nm : Norm m) :
    Calls Tryz.prog 79 #[.slice A n c, .slice B k d] w (CmpEnd w (val B32 l) (val B32 m)) := by
  have hll := hd.1
  have hml := he.1
  by_cases hne : n = k
  · subst hne
    have hne : ((n : Int) != (n : Int)) = false := by simp
    have hm' : n ≤ 9223372036854775807 := by unfold maxLen at hm; omega
    go_enter Tryz.func79, Tryz.ntmps79
    go_wp2
    go_loopw [5] (fun v wr => ∃ j : Nat, j ≤ n ∧ v = .int .i64 ((j : Int) - 1) ∧ l.drop j = m.drop j ∧ ∃ q, wr = w.drewN q) (fun v _ => (intOf v + 1).toNat)
    case atStart => exact ⟨n, Nat.le_refl _, rfl, by rw [List.drop_of_length_le (by omega), List.drop_of_length_le (by omega)], 0, rfl⟩
    case round =>
      obtain ⟨j, hj, rfl, hdr, q, rfl⟩ := hrel
      have HD := Lib.hid hdr; clear hdr
      rcases j with _ | j
      · go_wp2
        go_ret
        exact ⟨0, rfl, Cmp.eq (by have := HD.out; simp at this; rw [this]), q, rfl⟩
      · have e : ((j + 1 : Nat) : Int) - 1 = (j : Int) := by omega
        rw [e]
        obtain ⟨g, rfl, _, hc1⟩ := hd.at_ (by omega)
        obtain ⟨g', rfl, _, hc2⟩ := he.at_ (by omega)
        have hx := hc1 j (by omega)
        have hy := hc2 j (by omega)
        clear hc1 hc2
        have hlt : (j : Int) < (n : Int) := by omega
        have h0 : (0 : Int) ≤ (j : Int) := by omega
        by_cases hq : dg l j = dg m j
        · have hq' : (((dg l j : Nat) : Int) != ((dg m j : Nat) : Int)) = false := by simp [hq]
          have HQ := Lib.hid hq; clear hq
          go_wp2_with fail
          go_quiet (fail)
          go_wp2
          go_roundw
          case rel => exact ⟨j, by omega, rfl, drop_eq_step (by omega) (by omega) HD.out HQ.out, _, rfl⟩
          case measure => simp [intOf]
        · have hq' : (((dg l j : Nat) : Int) != ((dg m j : Nat) : Int)) = true := by simp; omega
          by_cases hq2 : dg l j < dg m j
          · have hq3 : (((dg l j : Nat) : Int) < ((dg m j : Nat) : Int)) := by omega
            go_wp2_with fail
            go_quiet (fail)
            go_wp2_with fail
            go_quiet (fail)
            go_wp2
            go_ret
            exact ⟨-1, rfl, Cmp.lt (val_lt_of_digit gl (by omega) (by omega) HD.out hq2), _, dN3 _ _ _ _⟩
          · have hq3 : ¬ (((dg l j : Nat) : Int) < ((dg m j : Nat) : Int)) := by omega
            go_wp2_with fail
            go_quiet (fail)
            go_wp2_with fail
            go_quiet (fail)
            go_wp2
            go_ret
            exact ⟨1, rfl, Cmp.gt (val_lt_of_digit gm (by omega) (by omega) HD.out.symm (by unfold dg at *; omega)), _, dN3 _ _ _ _⟩
  · have hne' : ((n : Int) != (k : Int)) = true := by simp; omega
    have H := Lib.hid (cmp_len (b := B32) (by decide) gl gm nl nm (by omega) (by omega) (by omega))
    have hm' : n ≤ 9223372036854775807 := by unfold maxLen at hm; omega
    have hm2' : k ≤ 9223372036854775807 := by unfold maxLen at hm2; omega
    subst hll hml
    go_enter Tryz.func79, Tryz.ntmps79
    go_wp2
    go_ret
    exact ⟨_, rfl, H.out, 0, rfl⟩

theorem Tryz.info110 : (Tryz.prog.info? 110).map (fun i => (i.zero, i.size, i.bytes)) = some (some (.int .u32 0), 1, 4) := by kernel_rfl

/-- What sum, less, trimmed leave: digits in a row of the call's own. -/
def Row (E : TypeId) (B : Nat) (w : World) (v : Value) (os : List Nat) : Prop := w.ownsRow B E 1 v os.length (digV .u32 os)

theorem u32_cell {w : World} {E : TypeId} (x : Int) (g : Nat) (hg : g = w.heap.size) : ∀ j u, [Value.int .u32 x][j]? = some u → (w.alloc (.cells #[.int .u32 x] E)).cell? ((⟨g, 0, none⟩ : Addr).add j) = some u := by
  subst hg
  intro j u hj
  match j, hj with
  | 0, hj => simp at hj; subst hj; simp [Addr.add]

theorem row_cast {w : World} {B : Nat} {E : TypeId} {v : Value} {n : Nat} {os : List Nat} {X : Int} {x : Nat} (h : w.ownsRow B E 1 v n (digV .u32 os ++ [.int .u32 X])) (hx : X = (x : Int)) : w.ownsRow B E 1 v n (digV .u32 (os ++ [x])) := by
  subst hx; rw [digV_snoc]; exact h

theorem sum_rel {l m os : List Nat} {j cy p q : Nat} (hos : os.length = j) (hval : val B32 os + B32 ^ j * cy = val B32 (l.take j) + val B32 (m.take j)) (hp : p = dg l j) (hq : q = dg m j) (gos : Digs B32 os) (hcy : cy ≤ 1) (b1 : p < 4294967296) (b2 : q < 4294967296) :
    (os ++ [(cy + p + q) % B32]).length = j + 1 ∧ Digs B32 (os ++ [(cy + p + q) % B32]) ∧ (cy + p + q) / B32 ≤ 1 ∧ val B32 (os ++ [(cy + p + q) % B32]) + B32 ^ (j + 1) * ((cy + p + q) / B32) = val B32 (l.take (j + 1)) + val B32 (m.take (j + 1)) := by
  subst hos
  refine ⟨by simp, gos.snoc (Nat.mod_lt _ (by decide)), carry_le hcy b1 b2, ?_⟩
  rw [sum_step hval, val_take_succ, val_take_succ, hp, hq]
  rfl

set_option maxHeartbeats 1000000 in
set_option maxRecDepth 100000 in
theorem sum_long (l m : List Nat) (A B : Option Addr) (n c k d : Nat) (w : World) (hd : Dig w .u32 110 A n l) (he : Dig w .u32 110 B k m)
    (gl : Digs B32 l) (gm : Digs B32 m) (hn : n ≤ 1000) (hkn : k ≤ n) :
    Calls Tryz.prog 78 #[.slice A n c, .slice B k d] w fun e w' => ∃ v os, e = .returned v ∧ Row 110 w.heap.size w' v os ∧ os.length = n + 1 ∧ Digs B32 os ∧ val B32 os = val B32 l + val B32 m ∧ Below w.heap.size w w' := by
  have hll := hd.1
  have hml := he.1
  obtain ⟨i0, hi, hz0, hz1, hz2⟩ := info_parts Tryz.info110
  have hnk : ¬ n < k := by omega
  go_enter Tryz.func78, Tryz.ntmps78
  go_wp2_with (first
      | (at_make; refine wpList_make_own _ rfl _ _ 89 rfl w.heap.size 110 i0 (.int .u32 0) 1 Tryz.underlying89 hi hz0 hz1 .i64 .i64 _ (n + 1) rfl rfl (by omega) (by rw [hz2]; omega) (by unfold maxLen; omega) (Nat.le_refl _) ?_; intro w1 hown1 hg1))
  have hg0 : Below w.heap.size w w1 := (Below.refl _ _).grown hg1 (Nat.le_refl _) (fun _ h => by cases h)
  go_loopw [6, 5, 22] (fun cv v i wr => ∃ (j cy : Nat) (os : List Nat), j ≤ n ∧ i = .int .i64 j ∧ cv = .int .u64 cy ∧ os.length = j ∧ v = .slice (some ⟨w.heap.size, 0, none⟩) j (n + 1) ∧
      wr.ownsRow w.heap.size 110 1 (.slice (some ⟨w.heap.size, 0, none⟩) j (n + 1)) j (digV .u32 os) ∧ Digs B32 os ∧ cy ≤ 1 ∧ val B32 os + B32 ^ j * cy = val B32 (l.take j) + val B32 (m.take j) ∧ Below w.heap.size w wr)
    (fun _ _ i _ => n - (intOf i).toNat)
  case atStart => exact ⟨0, 0, [], Nat.zero_le _, rfl, rfl, rfl, rfl, hown1, Digs.nil _, by omega, by simp [val], hg0⟩
  case round =>
    obtain ⟨j, cy, os, hj, rfl, rfl, hos, rfl, hown, gos, hcy, hval, hbel⟩ := hrel
    have HV := Lib.hid hval; have HO := Lib.hid hos; clear hval hos
    have hcap := (own_cap hown1).2
    rcases Nat.lt_or_ge j n with hjn | hjn
    · obtain ⟨g, rfl, hg, hc1⟩ := hd.at_ (by omega)
      have hx := (hbel.cell (p := ⟨g, j, none⟩) hg).trans (hc1 j hjn)
      have b1 : dg l j < 4294967296 := dg_lt gl (by decide) j
      have b2 : dg m j < 4294967296 := dg_lt gm (by decide) j
      have hwr := hbel.size
      clear hc1
      rcases Nat.lt_or_ge j k with hjk | hjk
      · obtain ⟨g', rfl, hg', hc2⟩ := he.at_ (by omega)
        have hy := (hbel.cell (p := ⟨g', j, none⟩) hg').trans (hc2 j hjk)
        clear hc2
        go_wp2_with (first
          | (at_builtin; refine wpList_append_fits _ rfl _ _ 89 rfl w.heap.size 110 i0 1 Tryz.underlying89 hi hz1 w.heap.size j (n + 1) (digV .u32 os) rfl (hown.alloc _) ⟨wr.heap.size, 0, none⟩ 1 1 [.int .u32 (((cy : Int) + (dg l j : Nat) + (dg m j : Nat)) % 4294967296)] rfl rfl ?c1 ?c2 ?c3 ?_))
        case c1 => exact u32_cell _ _ rfl
        case c2 => intro u hu; simp at hu; subst hu; rfl
        case c3 => omega
        intro w2 hown2 hg2
        go_wp2
        go_roundw
        case rel =>
          obtain ⟨r1, r2, r3, r4⟩ := sum_rel HO.out HV.out rfl rfl gos hcy b1 b2
          exact ⟨j + 1, (cy + dg l j + dg m j) / B32, os ++ [(cy + dg l j + dg m j) % B32], by omega, by go_num, congrArg _ (by unfold B32; omega), r1, rfl,
            row_cast hown2 (by unfold B32; omega), r2, r3, r4, (hbel.alloc hwr _).grown hg2 (by simp; omega) (by intro g h; injection h with h; omega)⟩
        case measure => simp [intOf]; omega
      · go_wp2_with (first
          | (at_builtin; refine wpList_append_fits _ rfl _ _ 89 rfl w.heap.size 110 i0 1 Tryz.underlying89 hi hz1 w.heap.size j (n + 1) (digV .u32 os) rfl (hown.alloc _) ⟨wr.heap.size, 0, none⟩ 1 1 [.int .u32 (((cy : Int) + (dg l j : Nat)) % 4294967296)] rfl rfl ?c1 ?c2 ?c3 ?_))
        case c1 => exact u32_cell _ _ rfl
        case c2 => intro u hu; simp at hu; subst hu; rfl
        case c3 => omega
        intro w2 hown2 hg2
        go_wp2
        go_roundw
        case rel =>
          obtain ⟨r1, r2, r3, r4⟩ := sum_rel (q := 0) HO.out HV.out rfl (dg_out (by omega)).symm gos hcy b1 (by omega)
          exact ⟨j + 1, (cy + dg l j + 0) / B32, os ++ [(cy + dg l j + 0) % B32], by omega, by go_num, congrArg _ (by unfold B32; omega), r1, rfl,
            row_cast hown2 (by unfold B32; omega), r2, r3, r4, (hbel.alloc hwr _).grown hg2 (by simp; omega) (by intro g h; injection h with h; omega)⟩
        case measure => simp [intOf]; omega
    · obtain rfl : j = n := by omega
      have hwr := hbel.size
      go_wp2_with (first
          | (at_builtin; refine wpList_append_fits _ rfl _ _ 89 rfl w.heap.size 110 i0 1 Tryz.underlying89 hi hz1 w.heap.size j (j + 1) (digV .u32 os) rfl (hown.alloc _) ⟨wr.heap.size, 0, none⟩ 1 1 [.int .u32 (cy : Int)] rfl rfl ?c1 ?c2 ?c3 ?_))
      case c1 => exact u32_cell _ _ rfl
      case c2 => intro u hu; simp at hu; subst hu; rfl
      case c3 => omega
      intro w2 hown2 hg2
      go_wp2
      go_ret
      have e1 : (os ++ [cy]).length = j + 1 := by simp [HO.out]
      refine ⟨_, os ++ [cy], rfl, by unfold Row; rw [e1]; exact row_cast hown2 rfl, e1, gos.snoc (by unfold B32; omega), ?_, (hbel.alloc hwr _).grown hg2 (by simp; omega) (by intro g h; injection h with h; omega)⟩
      have hv := HV.out
      rw [val_snoc, HO.out, hv, List.take_of_length_le (by omega), List.take_of_length_le (by omega)]

set_option maxHeartbeats 1000000 in
set_option maxRecDepth 100000 in
theorem sum_short (l m : List Nat) (A B : Option Addr) (n c k d : Nat) (w : World) (hd : Dig w .u32 110 A n l) (he : Dig w .u32 110 B k m)
    (gl : Digs B32 l) (gm : Digs B32 m) (hn : n ≤ 1000) (hkn : k < n) :
    Calls Tryz.prog 78 #[.slice B k d, .slice A n c] w fun e w' => ∃ v os, e = .returned v ∧ Row 110 w.heap.size w' v os ∧ os.length = n + 1 ∧ Digs B32 os ∧ val B32 os = val B32 l + val B32 m ∧ Below w.heap.size w w' := by
  have hll := hd.1
  have hml := he.1
  obtain ⟨i0, hi, hz0, hz1, hz2⟩ := info_parts Tryz.info110
  go_enter Tryz.func78, Tryz.ntmps78
  go_wp2_with (first
      | (at_make; refine wpList_make_own _ rfl _ _ 89 rfl w.heap.size 110 i0 (.int .u32 0) 1 Tryz.underlying89 hi hz0 hz1 .i64 .i64 _ (n + 1) rfl rfl (by omega) (by rw [hz2]; omega) (by unfold maxLen; omega) (Nat.le_refl _) ?_; intro w1 hown1 hg1))
  have hg0 : Below w.heap.size w w1 := (Below.refl _ _).grown hg1 (Nat.le_refl _) (fun _ h => by cases h)
  go_loopw [6, 5, 22] (fun cv v i wr => ∃ (j cy : Nat) (os : List Nat), j ≤ n ∧ i = .int .i64 j ∧ cv = .int .u64 cy ∧ os.length = j ∧ v = .slice (some ⟨w.heap.size, 0, none⟩) j (n + 1) ∧
      wr.ownsRow w.heap.size 110 1 (.slice (some ⟨w.heap.size, 0, none⟩) j (n + 1)) j (digV .u32 os) ∧ Digs B32 os ∧ cy ≤ 1 ∧ val B32 os + B32 ^ j * cy = val B32 (l.take j) + val B32 (m.take j) ∧ Below w.heap.size w wr)
    (fun _ _ i _ => n - (intOf i).toNat)
  case atStart => exact ⟨0, 0, [], Nat.zero_le _, rfl, rfl, rfl, rfl, hown1, Digs.nil _, by omega, by simp [val], hg0⟩
  case round =>
    obtain ⟨j, cy, os, hj, rfl, rfl, hos, rfl, hown, gos, hcy, hval, hbel⟩ := hrel
    have HV := Lib.hid hval; have HO := Lib.hid hos; clear hval hos
    have hcap := (own_cap hown1).2
    rcases Nat.lt_or_ge j n with hjn | hjn
    · obtain ⟨g, rfl, hg, hc1⟩ := hd.at_ (by omega)
      have hx := (hbel.cell (p := ⟨g, j, none⟩) hg).trans (hc1 j hjn)
      have b1 : dg l j < 4294967296 := dg_lt gl (by decide) j
      have b2 : dg m j < 4294967296 := dg_lt gm (by decide) j
      have hwr := hbel.size
      clear hc1
      rcases Nat.lt_or_ge j k with hjk | hjk
      · obtain ⟨g', rfl, hg', hc2⟩ := he.at_ (by omega)
        have hy := (hbel.cell (p := ⟨g', j, none⟩) hg').trans (hc2 j hjk)
        clear hc2
        go_wp2_with (first
          | (at_builtin; refine wpList_append_fits _ rfl _ _ 89 rfl w.heap.size 110 i0 1 Tryz.underlying89 hi hz1 w.heap.size j (n + 1) (digV .u32 os) rfl (hown.alloc _) ⟨wr.heap.size, 0, none⟩ 1 1 [.int .u32 (((cy : Int) + (dg l j : Nat) + (dg m j : Nat)) % 4294967296)] rfl rfl ?c1 ?c2 ?c3 ?_))
        case c1 => exact u32_cell _ _ rfl
        case c2 => intro u hu; simp at hu; subst hu; rfl
        case c3 => omega
        intro w2 hown2 hg2
        go_wp2
        go_roundw
        case rel =>
          obtain ⟨r1, r2, r3, r4⟩ := sum_rel HO.out HV.out rfl rfl gos hcy b1 b2
          exact ⟨j + 1, (cy + dg l j + dg m j) / B32, os ++ [(cy + dg l j + dg m j) % B32], by omega, by go_num, congrArg _ (by unfold B32; omega), r1, rfl,
            row_cast hown2 (by unfold B32; omega), r2, r3, r4, (hbel.alloc hwr _).grown hg2 (by simp; omega) (by intro g h; injection h with h; omega)⟩
        case measure => simp [intOf]; omega
      · go_wp2_with (first
          | (at_builtin; refine wpList_append_fits _ rfl _ _ 89 rfl w.heap.size 110 i0 1 Tryz.underlying89 hi hz1 w.heap.size j (n + 1) (digV .u32 os) rfl (hown.alloc _) ⟨wr.heap.size, 0, none⟩ 1 1 [.int .u32 (((cy : Int) + (dg l j : Nat)) % 4294967296)] rfl rfl ?c1 ?c2 ?c3 ?_))
        case c1 => exact u32_cell _ _ rfl
        case c2 => intro u hu; simp at hu; subst hu; rfl
        case c3 => omega
        intro w2 hown2 hg2
        go_wp2
        go_roundw
        case rel =>
          obtain ⟨r1, r2, r3, r4⟩ := sum_rel (q := 0) HO.out HV.out rfl (dg_out (by omega)).symm gos hcy b1 (by omega)
          exact ⟨j + 1, (cy + dg l j + 0) / B32, os ++ [(cy + dg l j + 0) % B32], by omega, by go_num, congrArg _ (by unfold B32; omega), r1, rfl,
            row_cast hown2 (by unfold B32; omega), r2, r3, r4, (hbel.alloc hwr _).grown hg2 (by simp; omega) (by intro g h; injection h with h; omega)⟩
        case measure => simp [intOf]; omega
    · obtain rfl : j = n := by omega
      have hwr := hbel.size
      go_wp2_with (first
          | (at_builtin; refine wpList_append_fits _ rfl _ _ 89 rfl w.heap.size 110 i0 1 Tryz.underlying89 hi hz1 w.heap.size j (j + 1) (digV .u32 os) rfl (hown.alloc _) ⟨wr.heap.size, 0, none⟩ 1 1 [.int .u32 (cy : Int)] rfl rfl ?c1 ?c2 ?c3 ?_))
      case c1 => exact u32_cell _ _ rfl
      case c2 => intro u hu; simp at hu; subst hu; rfl
      case c3 => omega
      intro w2 hown2 hg2
      go_wp2
      go_ret
      have e1 : (os ++ [cy]).length = j + 1 := by simp [HO.out]
      refine ⟨_, os ++ [cy], rfl, by unfold Row; rw [e1]; exact row_cast hown2 rfl, e1, gos.snoc (by unfold B32; omega), ?_, (hbel.alloc hwr _).grown hg2 (by simp; omega) (by intro g h; injection h with h; omega)⟩
      have hv := HV.out
      rw [val_snoc, HO.out, hv, List.take_of_length_le (by omega), List.take_of_length_le (by omega)]


/-- The digits of a sum. -/
theorem sum_c (l m : List Nat) (A B : Option Addr) (n c k d : Nat) (w : World) (hd : Dig w .u32 110 A n l) (he : Dig w .u32 110 B k m)
    (gl : Digs B32 l) (gm : Digs B32 m) (hn : n ≤ 1000) (hk : k ≤ 1000) :
    Calls Tryz.prog 78 #[.slice A n c, .slice B k d] w fun e w' => ∃ v os, e = .returned v ∧ Row 110 w.heap.size w' v os ∧ 0 < os.length ∧ os.length ≤ 1001 ∧ Digs B32 os ∧ val B32 os = val B32 l + val B32 m ∧ Below w.heap.size w w' := by
  rcases Nat.lt_or_ge n k with h | h
  · refine (sum_short m l B A k d n c w he hd gm gl hk h).mono ?_
    rintro e w' ⟨v, os, rfl, h1, h2, h3, h4, h5⟩
    exact ⟨v, os, rfl, h1, by omega, by omega, h3, by omega, h5⟩
  · refine (sum_long l m A B n c k d w hd he gl gm hn h).mono ?_
    rintro e w' ⟨v, os, rfl, h1, h2, h3, h4, h5⟩
    exact ⟨v, os, rfl, h1, by omega, by omega, h3, by omega, h5⟩

end Go.Proofs.YtcfhaljkemaefaaGreatDoor

namespace Go.Proofs.YtcfhaljkemaefaaGreatDoor
open Go.RowKit Limb

theorem u64w (x : Int) : IntKind.u64.wrap x = x % 18446744073709551616 := by simp [IntKind.wrap, IntKind.bits, IntKind.signed]
theorem sub_digit (p br q : Nat) (hbr : br ≤ 1) (hp : p < 4294967296) (hq : q < 4294967296) :
    IntKind.u64.wrap (IntKind.u64.wrap ((p : Int) - br) - q) % 4294967296 = ((dig B32 br p q : Nat) : Int) := by
  rw [u64w, u64w]; unfold dig B32; split <;> omega
theorem sub_borrow (p br q : Nat) (hbr : br ≤ 1) (hp : p < 4294967296) (hq : q < 4294967296) :
    bits BinOp.and IntKind.u64 (IntKind.u64.wrap (IntKind.u64.wrap ((p : Int) - br) - q) / 4294967296) 1 = ((bor br p q : Nat) : Int) := by
  have h : 0 ≤ IntKind.u64.wrap (IntKind.u64.wrap ((p : Int) - br) - q) ∧ IntKind.u64.wrap (IntKind.u64.wrap ((p : Int) - br) - q) ≤ 18446744073709551615 := by rw [u64w]; omega
  rw [and_one_u64 _ (by omega) (by omega), u64w, u64w]
  unfold bor; split <;> omega
theorem sub_digit0 (p br : Nat) (hbr : br ≤ 1) (hp : p < 4294967296) : IntKind.u64.wrap ((p : Int) - br) % 4294967296 = ((dig B32 br p 0 : Nat) : Int) := by
  rw [u64w]; unfold dig B32; split <;> omega
theorem sub_borrow0 (p br : Nat) (hbr : br ≤ 1) (hp : p < 4294967296) : bits BinOp.and IntKind.u64 (IntKind.u64.wrap ((p : Int) - br) / 4294967296) 1 = ((bor br p 0 : Nat) : Int) := by
  have h : 0 ≤ IntKind.u64.wrap ((p : Int) - br) ∧ IntKind.u64.wrap ((p : Int) - br) ≤ 18446744073709551615 := by rw [u64w]; omega
  rw [and_one_u64 _ (by omega) (by omega), u64w]
  unfold bor; split <;> omega

theorem less_rel {l m os : List Nat} {j br p q : Nat} (hos : os.length = j) (hval : val B32 (l.take j) + B32 ^ j * br = val B32 os + val B32 (m.take j)) (hp : p = dg l j) (hq : q = dg m j) (gos : Digs B32 os) (hbr : br ≤ 1) (b1 : p < 4294967296) (b2 : q < 4294967296) :
    (os ++ [dig B32 br p q]).length = j + 1 ∧ Digs B32 (os ++ [dig B32 br p q]) ∧ val B32 (l.take (j + 1)) + B32 ^ (j + 1) * bor br p q = val B32 (os ++ [dig B32 br p q]) + val B32 (m.take (j + 1)) := by
  subst hos
  refine ⟨by simp, gos.snoc (dig_lt hbr b1 b2), ?_⟩
  have h := diff_step hval hbr (b := B32) (p := p) (q := q) b1 b2
  rw [val_take_succ, val_take_succ]
  rw [hp, hq] at h ⊢
  exact h

set_option maxHeartbeats 1000000 in
set_option maxRecDepth 100000 in
theorem less_c (l m : List Nat) (A B : Option Addr) (n c k d : Nat) (w : World) (hd : Dig w .u32 110 A n l) (he : Dig w .u32 110 B k m)
    (gl : Digs B32 l) (gm : Digs B32 m) (hn : n ≤ 2000) (hkn : k ≤ n) (hle : val B32 m ≤ val B32 l) :
    Calls Tryz.prog 80 #[.slice A n c, .slice B k d] w fun e w' => ∃ v os, e = .returned v ∧ Row 110 w.heap.size w' v os ∧ Digs B32 os ∧ Norm os ∧ val B32 os = val B32 l - val B32 m ∧ Below w.heap.size w w' := by
  have hll := hd.1
  have hml := he.1
  obtain ⟨i0, hi, hz0, hz1, hz2⟩ := info_parts Tryz.info110
  have HL := Lib.hid hle; clear hle
  go_enter Tryz.func80, Tryz.ntmps80
  go_wp2_with (first
      | (at_make; refine wpList_make_own _ rfl _ _ 89 rfl w.heap.size 110 i0 (.int .u32 0) 1 Tryz.underlying89 hi hz0 hz1 .i64 .i64 _ n rfl rfl (by omega) (by rw [hz2]; omega) (by unfold maxLen; omega) (Nat.le_refl _) ?_; intro w1 hown1 hg1))
  have hg0 : Below w.heap.size w w1 := (Below.refl _ _).grown hg1 (Nat.le_refl _) (fun _ h => by cases h)
  go_loopw [5, 6, 15] (fun v cv i wr => ∃ (j br : Nat) (os : List Nat), j ≤ n ∧ i = .int .i64 j ∧ cv = .int .u64 br ∧ os.length = j ∧ v = .slice (some ⟨w.heap.size, 0, none⟩) j n ∧
      wr.ownsRow w.heap.size 110 1 (.slice (some ⟨w.heap.size, 0, none⟩) j n) j (digV .u32 os) ∧ Digs B32 os ∧ br ≤ 1 ∧ val B32 (l.take j) + B32 ^ j * br = val B32 os + val B32 (m.take j) ∧ Below w.heap.size w wr)
    (fun _ _ i _ => n - (intOf i).toNat)
  case atStart => exact ⟨0, 0, [], Nat.zero_le _, rfl, rfl, rfl, rfl, hown1, Digs.nil _, by omega, by simp [val], hg0⟩
  case round =>
    obtain ⟨j, br, os, hj, rfl, rfl, hos, rfl, hown, gos, hbr, hval, hbel⟩ := hrel
    have HV := Lib.hid hval; have HO := Lib.hid hos; clear hval hos
    rcases Nat.lt_or_ge j n with hjn | hjn
    · obtain ⟨g, rfl, hg, hc1⟩ := hd.at_ (by omega)
      have hx := (hbel.cell (p := ⟨g, j, none⟩) hg).trans (hc1 j hjn)
      have b1 : dg l j < 4294967296 := dg_lt gl (by decide) j
      have b2 : dg m j < 4294967296 := dg_lt gm (by decide) j
      have hwr := hbel.size
      clear hc1
      rcases Nat.lt_or_ge j k with hjk | hjk
      · obtain ⟨g', rfl, hg', hc2⟩ := he.at_ (by omega)
        have hy := (hbel.cell (p := ⟨g', j, none⟩) hg').trans (hc2 j hjk)
        clear hc2
        go_wp2_with (first
          | (at_builtin; refine wpList_push_fits rfl _ _ 89 rfl w.heap.size 110 i0 Tryz.underlying89 hi hz1 w.heap.size j n (digV .u32 os) rfl hown _ rfl rfl (by omega) ?_; intro w2 hown2 hg2))
        go_roundw
        case rel =>
          obtain ⟨r1, r2, r3⟩ := less_rel HO.out HV.out rfl rfl gos hbr b1 b2
          exact ⟨j + 1, bor br (dg l j) (dg m j), os ++ [dig B32 br (dg l j) (dg m j)], by omega, by go_num, congrArg _ (sub_borrow _ _ _ hbr b1 b2), r1, rfl,
            row_cast hown2 (sub_digit _ _ _ hbr b1 b2), r2, bor_le _ _ _, r3, hbel.grown hg2 hwr (by intro g h; injection h with h; omega)⟩
        case measure => simp [intOf]; omega
      · go_wp2_with (first
          | (at_builtin; refine wpList_push_fits rfl _ _ 89 rfl w.heap.size 110 i0 Tryz.underlying89 hi hz1 w.heap.size j n (digV .u32 os) rfl hown _ rfl rfl (by omega) ?_; intro w2 hown2 hg2))
        go_roundw
        case rel =>
          obtain ⟨r1, r2, r3⟩ := less_rel (q := 0) HO.out HV.out rfl (dg_out (by omega)).symm gos hbr b1 (by omega)
          exact ⟨j + 1, bor br (dg l j) 0, os ++ [dig B32 br (dg l j) 0], by omega, by go_num, congrArg _ (sub_borrow0 _ _ hbr b1), r1, rfl,
            row_cast hown2 (sub_digit0 _ _ hbr b1), r2, bor_le _ _ _, r3, hbel.grown hg2 hwr (by intro g h; injection h with h; omega)⟩
        case measure => simp [intOf]; omega
    · obtain rfl : j = n := by omega
      have hcap := (own_cap hown).2
      go_wp2_with fail
      refine (trimmed_c os _ j j _ (Dig.of_own hown) (Nat.le_refl _) hcap).mono ?_
      rintro e w' ⟨rfl, q, hq, ht, rfl⟩
      have HT := Lib.hid ht; clear ht
      go_wp2
      go_ret
      have hv := HV.out
      rw [List.take_of_length_le (by omega), List.take_of_length_le (by omega)] at hv
      have hlen : (trim os).length = q := by rw [HT.out, List.length_take, HO.out]; omega
      refine ⟨_, trim os, rfl, ?_, digs_trim gos, norm_trim os, ?_, hbel⟩
      · unfold Row
        rw [hlen, HT.out]
        exact own_take hown hq
      · rw [val_trim]
        have hO := HO.out
        rw [← hO] at hv
        exact diff_end hv gos HL.out

end Go.Proofs.YtcfhaljkemaefaaGreatDoor

namespace Go.Proofs.YtcfhaljkemaefaaGreatDoor
open Go.RowKit Limb

theorem plus_same {s : Bool} {x y : Nat} : sg s (x + y) = sg s x + sg s y := by unfold sg; split <;> omega
theorem Row.slice {E : TypeId} {B : Nat} {w : World} {v : Value} {os : List Nat} (h : Row E B w v os) : ∃ A c, v = .slice A os.length c := own_slice h

theorem sg_less {s t : Bool} {x y : Nat} (h : s ≠ t) (hle : y ≤ x) : sg s (x - y) = sg s x + sg t y := by cases s <;> cases t <;> simp_all [sg] <;> omega
theorem sg_less' {s t : Bool} {x y : Nat} (h : s ≠ t) (hle : x ≤ y) : sg t (y - x) = sg s x + sg t y := by cases s <;> cases t <;> simp_all [sg] <;> omega
theorem len_of_val {b : Nat} (hb : 1 < b) {l m : List Nat} (gl : Digs b l) (nm : Norm m) (h : val b m ≤ val b l) : m.length ≤ l.length := by
  rcases Nat.lt_or_ge l.length m.length with k | k
  · have := val_lt_of_len hb gl nm k; omega
  · exact k

set_option maxHeartbeats 4000000 in
set_option maxRecDepth 100000 in
theorem plus_c (w : World) {s t : Bool} {A B : Option Addr} {n c k d : Nat} {x y : Int} (ha : Big .u32 110 B32 w s A n c x) (hb : Big .u32 110 B32 w t B k d y) (sx : Small x) (sy : Small y) :
    Calls Tryz.prog 50 #[.agg #[.bool s, .slice A n c], .agg #[.bool t, .slice B k d]] w (Makes .u32 110 B32 w (x + y)) := by
  obtain ⟨l, hd, hnc, hcm, gl, nl, sl, hx⟩ := ha
  obtain ⟨m, he, hkd, hdm, gm, nm, sm, hy⟩ := hb
  have hn : n ≤ 1000 := by rw [← hd.1]; rw [hx] at sx; have := small_len32 nl sx; omega
  have hk : k ≤ 1000 := by rw [← he.1]; rw [hy] at sy; have := small_len32 nm sy; omega
  have HX := Lib.hid hx; have HY := Lib.hid hy; clear hx hy
  have HL := Lib.hid hd.1; have HM := Lib.hid he.1
  clear sx sy
  by_cases hst : s = t
  · subst hst
    have hs : (s == s) = true := by simp
    go_enter Tryz.func50, Tryz.ntmps50
    go_wp2_with fail
    generalize hw : ((w.alloc (.cells #[.bool s, .slice A n c] 91)).alloc (.cells #[.bool s, .slice B k d] 91)).alloc (.cells #[.bool false, .slice none 0 0] 91) = w3
    have hB1 : w3.heap[w.heap.size]? = some (.cells #[.bool s, .slice A n c] 91 (0, 0)) := by rw [← hw]; exact heap_old (heap_old (heap_new _ _ rfl) _) _
    have hB2 : w3.heap[w.heap.size + 1]? = some (.cells #[.bool s, .slice B k d] 91 (0, 0)) := by rw [← hw]; exact heap_old (heap_new _ _ (by simp)) _
    have hB3 : w3.heap[w.heap.size + 1 + 1]? = some (.cells #[.bool false, .slice none 0 0] 91 (0, 0)) := by rw [← hw]; exact heap_new _ _ (by simp)
    have hbel : Below w.heap.size w w3 := by rw [← hw]; go_grown
    have hd3 : Dig w3 .u32 110 A n l := by rw [← hw]; exact ((hd.alloc _).alloc _).alloc _
    have he3 : Dig w3 .u32 110 B k m := by rw [← hw]; exact ((he.alloc _).alloc _).alloc _
    clear hw hd he
    obtain ⟨c10, c11, f10, f11, z1⟩ := box2 hB1
    obtain ⟨c20, c21, f20, f21, z2⟩ := box2 hB2
    obtain ⟨c30, c31, f30, f31, z3⟩ := box2 hB3
    go_region_held3 (fun w' => w'.cell? ⟨w.heap.size, 0, none⟩ = some (.bool s) ∧ w'.cell? ⟨w.heap.size, 1, none⟩ = some (.slice A n c) ∧ w'.cell? ⟨w.heap.size + 1, 1, none⟩ = some (.slice B k d)) (first | (go_keep; done) | (refine ⟨cell_past2 r10 ?_, cell_past2 r11 ?_, cell_past2 r21 ?_⟩ <;> omega))
      (first
        | (go_at_call 78; refine (sum_c l m A B n c k d _ hd3.drew he3.drew gl gm hn hk).mono ?_; rintro e w4 ⟨v, os, rfl, hrow, _, _, gos, hval, hb4⟩; (have HV := Lib.hid hval); clear hval; obtain ⟨A1, d1, rfl⟩ := hrow.slice; (have q1 := box2 (heap_below (w := w3.drew) hB1 hb4)); (have q2 := box2 (heap_below (w := w3.drew) hB2 hb4)); obtain ⟨r10, r11, -, -, -⟩ := q1; obtain ⟨r20, r21, -, -, -⟩ := q2)
        | (go_at_call 77; refine (made_c os s A1 os.length d1 _ (Dig.of_own hrow) (own_cap hrow).1 (own_cap hrow).2 gos).mono ?_; rintro e w5 ⟨s5, A5, n5, c5, rfl, hv5, hb5⟩; (have hB5 := heap_below (heap_below (w := w3.drew) hB3 hb4) hb5); obtain ⟨g0, g1, g2, g3, g4⟩ := box2 hB5; (have q1 := box2 (heap_below (heap_below (w := w3.drew) hB1 hb4) hb5)); (have q2 := box2 (heap_below (heap_below (w := w3.drew) hB2 hb4) hb5)); obtain ⟨r10, r11, -, -, -⟩ := q1; obtain ⟨r20, r21, -, -, -⟩ := q2))
    go_wp2
    refine bodyPost_ret (v := .agg #[.bool s5, .slice A5 n5 c5]) (by simp [results, Tryz.results50, go_sem, g0, g1]) rfl ⟨s5, A5, n5, c5, rfl, ?_, ?_⟩
    · have e : sg s (val B32 os) = x + y := by have hx := HX.out; have hy := HY.out; have hv := HV.out; rw [hv, hx, hy, plus_same]
      rw [e] at hv5
      exact hv5.box2 hB5 (by decide) _ _
    · go_grown
      exact below_then hb5 (below_then hb4 (w := w) (B := w.heap.size) (hbel.drew) (by simp; omega)) (by have := hb4.size; simp at this; omega)
  · have hs : (s == t) = false := by simp [hst]
    go_enter Tryz.func50, Tryz.ntmps50
    go_wp2_with fail
    generalize hw : ((w.alloc (.cells #[.bool s, .slice A n c] 91)).alloc (.cells #[.bool t, .slice B k d] 91)).alloc (.cells #[.bool false, .slice none 0 0] 91) = w3
    have hB1 : w3.heap[w.heap.size]? = some (.cells #[.bool s, .slice A n c] 91 (0, 0)) := by rw [← hw]; exact heap_old (heap_old (heap_new _ _ rfl) _) _
    have hB2 : w3.heap[w.heap.size + 1]? = some (.cells #[.bool t, .slice B k d] 91 (0, 0)) := by rw [← hw]; exact heap_old (heap_new _ _ (by simp)) _
    have hB3 : w3.heap[w.heap.size + 1 + 1]? = some (.cells #[.bool false, .slice none 0 0] 91 (0, 0)) := by rw [← hw]; exact heap_new _ _ (by simp)
    have hbel : Below w.heap.size w w3 := by rw [← hw]; go_grown
    have hd3 : Dig w3 .u32 110 A n l := by rw [← hw]; exact ((hd.alloc _).alloc _).alloc _
    have he3 : Dig w3 .u32 110 B k m := by rw [← hw]; exact ((he.alloc _).alloc _).alloc _
    clear hw hd he
    obtain ⟨c10, c11, f10, f11, z1⟩ := box2 hB1
    obtain ⟨c20, c21, f20, f21, z2⟩ := box2 hB2
    obtain ⟨c30, c31, f30, f31, z3⟩ := box2 hB3
    refine (compare_c l m A B n c k d _ hd3 hnc hcm he3 hkd hdm gl gm nl nm).mono ?_
    rintro e w4 ⟨r, rfl, hr, q, rfl⟩
    rcases Nat.lt_or_ge (val B32 l) (val B32 m) with hlt | hge
    · have hr0 : r < 0 := hr.1.2 hlt
      have hkn : n ≤ k := by have := len_of_val (b := B32) (by decide) gm nl (by omega : val B32 l ≤ val B32 m); rw [HL.out, HM.out] at this; exact this
      clear hr
      have HLT := Lib.hid hlt; clear hlt
      go_wp2_with fail
      go_region_held3 (fun w' => w'.cell? ⟨w.heap.size + 1, 0, none⟩ = some (.bool t) ∧ w'.cell? ⟨w.heap.size, 1, none⟩ = some (.slice A n c) ∧ w'.cell? ⟨w.heap.size + 1, 1, none⟩ = some (.slice B k d)) (first | (go_keep; done) | (refine ⟨cell_past2 r20 ?_, cell_past2 r11 ?_, cell_past2 r21 ?_⟩ <;> omega))
        (first
          | (go_at_call 80; refine (less_c m l B A k d n c _ (by exact he3) (by exact hd3) gm gl (by omega) hkn (Nat.le_of_lt HLT.out)).mono ?_; rintro e w4 ⟨v, os, rfl, hrow, gos, _, hval, hb4⟩; (have HV := Lib.hid hval); clear hval; obtain ⟨A1, d1, rfl⟩ := hrow.slice; (have q1 := box2 (heap_below (w := (w3.drewN q).drew) hB1 hb4)); (have q2 := box2 (heap_below (w := (w3.drewN q).drew) hB2 hb4)); obtain ⟨r10, r11, -, -, -⟩ := q1; obtain ⟨r20, r21, -, -, -⟩ := q2)
          | (go_at_call 77; refine (made_c os t A1 os.length d1 _ (Dig.of_own hrow) (own_cap hrow).1 (own_cap hrow).2 gos).mono ?_; rintro e w5 ⟨s5, A5, n5, c5, rfl, hv5, hb5⟩; (have hB5 := heap_below (heap_below (w := (w3.drewN q).drew) hB3 hb4) hb5); obtain ⟨g0, g1, g2, g3, g4⟩ := box2 hB5; (have q1 := box2 (heap_below (heap_below (w := (w3.drewN q).drew) hB1 hb4) hb5)); (have q2 := box2 (heap_below (heap_below (w := (w3.drewN q).drew) hB2 hb4) hb5)); obtain ⟨r10, r11, -, -, -⟩ := q1; obtain ⟨r20, r21, -, -, -⟩ := q2))
      go_wp2
      refine bodyPost_ret (v := .agg #[.bool s5, .slice A5 n5 c5]) (by simp [results, Tryz.results50, go_sem, g0, g1]) rfl ⟨s5, A5, n5, c5, rfl, ?_, ?_⟩
      · have e : sg t (val B32 os) = x + y := by have hx := HX.out; have hy := HY.out; have hv := HV.out; rw [hv, hx, hy]; exact sg_less' hst (Nat.le_of_lt HLT.out)
        rw [e] at hv5
        exact hv5.box2 hB5 (by decide) _ _
      · go_grown
        exact below_then hb5 (below_then hb4 (w := w) (B := w.heap.size) ((below_drewN hbel q).drew) (by simp; omega)) (by have := hb4.size; simp at this; omega)
    · have hr0 : 0 ≤ r := by have h := hr.1; have h2 : ¬ r < 0 := fun h3 => by have := h.1 h3; omega
                             omega
      have hkn : k ≤ n := by have := len_of_val (b := B32) (by decide) gl nm hge; rw [HL.out, HM.out] at this; exact this
      clear hr
      have HLT := Lib.hid hge; clear hge
      go_wp2_with fail
      go_region_held3 (fun w' => w'.cell? ⟨w.heap.size, 0, none⟩ = some (.bool s) ∧ w'.cell? ⟨w.heap.size, 1, none⟩ = some (.slice A n c) ∧ w'.cell? ⟨w.heap.size + 1, 1, none⟩ = some (.slice B k d)) (first | (go_keep; done) | (refine ⟨cell_past2 r10 ?_, cell_past2 r11 ?_, cell_past2 r21 ?_⟩ <;> omega))
        (first
          | (go_at_call 80; refine (less_c l m A B n c k d _ (by exact hd3) (by exact he3) gl gm (by omega) hkn HLT.out).mono ?_; rintro e w4 ⟨v, os, rfl, hrow, gos, _, hval, hb4⟩; (have HV := Lib.hid hval); clear hval; obtain ⟨A1, d1, rfl⟩ := hrow.slice; (have q1 := box2 (heap_below (w := (w3.drewN q).drew) hB1 hb4)); (have q2 := box2 (heap_below (w := (w3.drewN q).drew) hB2 hb4)); obtain ⟨r10, r11, -, -, -⟩ := q1; obtain ⟨r20, r21, -, -, -⟩ := q2)
          | (go_at_call 77; refine (made_c os s A1 os.length d1 _ (Dig.of_own hrow) (own_cap hrow).1 (own_cap hrow).2 gos).mono ?_; rintro e w5 ⟨s5, A5, n5, c5, rfl, hv5, hb5⟩; (have hB5 := heap_below (heap_below (w := (w3.drewN q).drew) hB3 hb4) hb5); obtain ⟨g0, g1, g2, g3, g4⟩ := box2 hB5; (have q1 := box2 (heap_below (heap_below (w := (w3.drewN q).drew) hB1 hb4) hb5)); (have q2 := box2 (heap_below (heap_below (w := (w3.drewN q).drew) hB2 hb4) hb5)); obtain ⟨r10, r11, -, -, -⟩ := q1; obtain ⟨r20, r21, -, -, -⟩ := q2))
      go_wp2
      refine bodyPost_ret (v := .agg #[.bool s5, .slice A5 n5 c5]) (by simp [results, Tryz.results50, go_sem, g0, g1]) rfl ⟨s5, A5, n5, c5, rfl, ?_, ?_⟩
      · have e : sg s (val B32 os) = x + y := by have hx := HX.out; have hy := HY.out; have hv := HV.out; rw [hv, hx, hy]; exact sg_less hst HLT.out
        rw [e] at hv5
        exact hv5.box2 hB5 (by decide) _ _
      · go_grown
        exact below_then hb5 (below_then hb4 (w := w) (B := w.heap.size) ((below_drewN hbel q).drew) (by simp; omega)) (by have := hb4.size; simp at this; omega)

end Go.Proofs.YtcfhaljkemaefaaGreatDoor

namespace Go.Proofs.YtcfhaljkemaefaaGreatDoor
open Go.RowKit Limb

theorem Big.sign {K : IntKind} {E : TypeId} {b : Nat} {w : World} {s : Bool} {A : Option Addr} {n c : Nat} {z : Int} (hb : 0 < b) (h : Big K E b w s A n c z) : (s = true ∧ z.sign = -1) ∨ (s = false ∧ n = 0 ∧ z.sign = 0) ∨ (s = false ∧ 0 < n ∧ z.sign = 1) := by
  obtain ⟨l, hd, _, _, _, nl, sl, rfl⟩ := h
  have hl := hd.1
  cases s with
  | true =>
    have := val_pos hb nl (sl rfl)
    exact .inl ⟨rfl, by simp only [sg, if_true]; exact Int.sign_eq_neg_one_of_neg (by omega)⟩
  | false =>
    rcases Nat.eq_zero_or_pos n with h0 | h0
    · subst h0
      rw [List.length_eq_zero_iff] at hl
      subst hl
      exact .inr (.inl ⟨rfl, rfl, by simp [sg, val]⟩)
    · have := val_pos hb nl (by intro e; subst e; simp at hl; omega)
      exact .inr (.inr ⟨rfl, h0, by simp only [sg]; exact Int.sign_eq_one_of_pos (by simpa using this)⟩)

theorem sign_c (w : World) {s : Bool} {A : Option Addr} {n c : Nat} {z : Int} (h : Big .u32 110 B32 w s A n c z) :
    Calls Tryz.prog 51 #[.agg #[.bool s, .slice A n c]] w fun e w' => e = .returned (.int .i64 z.sign) ∧ Below w.heap.size w w' := by
  rcases h.sign (by decide) with ⟨rfl, e⟩ | ⟨rfl, rfl, e⟩ | ⟨rfl, h0, e⟩
  · rw [e]
    go_enter Tryz.func51, Tryz.ntmps51
    go_wp2
    go_ret
    exact ⟨rfl, by go_grown⟩
  · rw [e]
    go_enter Tryz.func51, Tryz.ntmps51
    go_wp2
    go_ret
    exact ⟨rfl, by go_grown⟩
  · rw [e]
    go_enter Tryz.func51, Tryz.ntmps51
    go_wp2
    go_ret
    exact ⟨rfl, by go_grown⟩

theorem sg_not {s : Bool} {x : Nat} : sg (!s) x = - sg s x := by cases s <;> simp [sg]

set_option maxHeartbeats 1000000 in
theorem minus_c (w : World) {s : Bool} {A : Option Addr} {n c : Nat} {z : Int} (h : Big .u32 110 B32 w s A n c z) :
    Calls Tryz.prog 52 #[.agg #[.bool s, .slice A n c]] w (Makes .u32 110 B32 w (-z)) := by
  obtain ⟨l, hd, hnc, hcm, gl, nl, sl, rfl⟩ := h
  go_enter Tryz.func52, Tryz.ntmps52
  go_wp2_with fail
  refine (made_c l (!s) A n c _ ((hd.alloc _).alloc _) hnc hcm gl).mono ?_
  rintro e w1 ⟨s1, A1, n1, c1, rfl, hv, hb⟩
  have hB := heap_below (heap_new (w.alloc _) _ rfl) hb
  simp only [World.size_alloc] at hB
  obtain ⟨g0, g1, g2, g3, g4⟩ := box2 hB
  go_wp2
  refine bodyPost_ret (v := .agg #[.bool s1, .slice A1 n1 c1]) (by simp [results, Tryz.results52, go_sem, g0, g1]) rfl ⟨s1, A1, n1, c1, rfl, ?_, ?_⟩
  · rw [← sg_not]
    exact hv.box2 hB (by decide) _ _
  · go_grown
    exact below_then hb (by go_grown) (by simp only [World.size_alloc]; omega)

theorem natAbs_sg (s : Bool) (x : Nat) : ((sg s x).natAbs : Int) = sg false x := by rw [sg_natAbs]; rfl

theorem Small.neg {z : Int} (h : Small z) : Small (-z) := by unfold Small at *; omega

end Go.Proofs.YtcfhaljkemaefaaGreatDoor

namespace Go.Proofs.YtcfhaljkemaefaaGreatDoor
open Go.RowKit Limb

/-- Digits in a row of the call's own, written in place. -/
theorem row_cell {w : World} {B : Nat} {E : TypeId} {g N c : Nat} {os : List Nat} (h : w.ownsRow B E 1 (.slice (some ⟨g, 0, none⟩) N c) N (digV .u32 os)) {p : Nat} (hp : p < N) : w.cell? ⟨g, p, none⟩ = some (.int .u32 ((dg os p : Nat) : Int)) := by
  have hl := h.1
  rw [digV_length] at hl
  rw [h.cellAt p (by omega)]
  exact digV_get _ (by omega)
theorem row_store {w : World} {B : Nat} {E : TypeId} {g N c : Nat} {os : List Nat} (h : w.ownsRow B E 1 (.slice (some ⟨g, 0, none⟩) N c) N (digV .u32 os)) (p : Nat) {X : Int} {x : Nat} (hx : X = (x : Int)) :
    (w.setCell ⟨g, p, none⟩ (.int .u32 X)).ownsRow B E 1 (.slice (some ⟨g, 0, none⟩) N c) N (digV .u32 (os.set p x)) := by
  subst hx; rw [digV_set]; exact (h.stored p _).1
theorem dg_set_other {l : List Nat} {k j d : Nat} (h : j ≠ k) : dg (l.set k d) j = dg l j := getD_set_other h

theorem made_zeros (n : Nat) : (madeCells #[Value.int .u32 0] n).toList = digV .u32 (List.replicate n 0) := by
  rw [toList_madeCells_one]; simp [digV]

theorem sg_mul {s t : Bool} {a b : Nat} : sg (!s == t) (a * b) = sg s a * sg t b := by cases s <;> cases t <;> simp [sg, Int.neg_mul, Int.mul_neg]

theorem mulw {cy o x y : Nat} (h1 : cy < 4294967296) (h2 : o < 4294967296) (h3 : x < 4294967296) (h4 : y < 4294967296) :
    IntKind.u64.wrap ((cy : Int) + IntKind.u64.wrap ((o : Int) + IntKind.u64.wrap ((x : Int) * (y : Int)))) = ((cy + o + x * y : Nat) : Int) := by
  have h5 : x * y ≤ 4294967295 * 4294967295 := Nat.mul_le_mul (by omega) (by omega)
  rw [← Int.natCast_mul]
  generalize x * y = p at *
  rw [u64w, u64w, u64w]
  omega

theorem times_rel {l m ps : List Nat} {j q cy : Nat} (hlt : j + q < ps.length) (hval : val B32 ps + B32 ^ (j + q) * cy = val B32 (l.take j) * val B32 m + B32 ^ j * (dg l j * val B32 (m.take q))) (gs : Digs B32 ps)
    (h1 : cy < 4294967296) (h3 : dg l j < 4294967296) (h4 : dg m q < 4294967296) :
    let t := cy + dg ps (j + q) + dg l j * dg m q
    t / B32 < 4294967296 ∧ Digs B32 (ps.set (j + q) (t % B32)) ∧ val B32 (ps.set (j + q) (t % B32)) + B32 ^ (j + (q + 1)) * (t / B32) = val B32 (l.take j) * val B32 m + B32 ^ j * (dg l j * val B32 (m.take (q + 1))) := by
  intro t
  have h2 : dg ps (j + q) < 4294967296 := dg_lt gs (by decide) _
  refine ⟨mul_carry h1 h2 h3 h4, gs.set _ (Nat.mod_lt _ (by decide)), ?_⟩
  have h := mul_step (b := B32) (m := dg l j * dg m q) hlt hval
  have e1 : j + (q + 1) = j + q + 1 := by omega
  rw [e1]
  refine Eq.trans h ?_
  rw [val_take_succ, Nat.mul_add, Nat.mul_add, Nat.pow_add]
  have e2 : B32 ^ j * B32 ^ q * (dg l j * dg m q) = B32 ^ j * (dg l j * (B32 ^ q * m.getD q 0)) := by
    show _ = B32 ^ j * (dg l j * (B32 ^ q * dg m q))
    rw [Nat.mul_assoc, Nat.mul_left_comm (B32 ^ q)]
  rw [e2, Nat.add_assoc]

theorem times_last {l m ps : List Nat} {j k cy : Nat} (hlt : j + k < ps.length) (hk : m.length = k) (hz : dg ps (j + k) = 0) (hval : val B32 ps + B32 ^ (j + k) * cy = val B32 (l.take j) * val B32 m + B32 ^ j * (dg l j * val B32 (m.take k))) :
    val B32 (ps.set (j + k) cy) = val B32 (l.take (j + 1)) * val B32 m := by
  have h := val_set B32 ps (j + k) cy hlt
  have hz' : ps.getD (j + k) 0 = 0 := hz
  rw [hz', Nat.mul_zero, Nat.add_zero, hval, show m.take k = m from List.take_of_length_le (by omega)] at h
  rw [h, val_take_succ, Nat.add_mul, Nat.mul_assoc]
  rfl

set_option maxHeartbeats 4000000 in
set_option maxRecDepth 100000 in
theorem times_c (w : World) {s t : Bool} {A B : Option Addr} {n c k d : Nat} {x y : Int} (ha : Big .u32 110 B32 w s A n c x) (hb : Big .u32 110 B32 w t B k d y) (sx : Small x) (sy : Small y) :
    Calls Tryz.prog 49 #[.agg #[.bool s, .slice A n c], .agg #[.bool t, .slice B k d]] w (Makes .u32 110 B32 w (x * y)) := by
  obtain ⟨l, hd, hnc, hcm, gl, nl, sl, hx⟩ := ha
  obtain ⟨m, he, hkd, hdm, gm, nm, sm, hy⟩ := hb
  have hn : n ≤ 1000 := by rw [← hd.1]; rw [hx] at sx; have := small_len32 nl sx; omega
  have hk : k ≤ 1000 := by rw [← he.1]; rw [hy] at sy; have := small_len32 nm sy; omega
  have HX := Lib.hid hx; have HY := Lib.hid hy; clear hx hy
  have HL := Lib.hid hd.1; have HM := Lib.hid he.1
  clear sx sy
  obtain ⟨i0, hi, hz0, hz1, hz2⟩ := info_parts Tryz.info110
  go_enter Tryz.func49, Tryz.ntmps49
  go_wp2_with (first
    | (at_make
       refine wpList_make_full _ rfl _ _ 89 rfl (w.heap.size + 1 + 1 + 1) 110 i0 (.int .u32 0) 1 Tryz.underlying89 hi hz0 hz1 .i64 .i64 _ _ (n + k) rfl rfl (by omega) (by omega) (by rw [hz2]; omega) (by unfold maxLen; omega) (by simp) ?_
       intro w4 hown1 hg1
       obtain ⟨hB1, hB2, hB3, hbel⟩ := boxes3 w (.bool s) (.slice A n c) (.bool t) (.slice B k d) (.bool false) (.slice none 0 0) 91 91 91 _ rfl
       have hb4 := (Below.refl _ _).grown hg1 (Nat.le_refl _) (fun _ h => by cases h)
       have hbw := below_then hb4 hbel hbel.size
       have hD1 := heap_below hB1 hb4
       have hD2 := heap_below hB2 hb4
       have hD3 := heap_below hB3 hb4
       clear hB1 hB2 hB3
       clear hb4
       simp only [World.size_alloc] at hown1
       clear hg1 hbel
       obtain ⟨c10, c11, -, -, z1⟩ := box2 hD1
       obtain ⟨c20, c21, -, -, z2⟩ := box2 hD2
       obtain ⟨-, -, -, -, z3⟩ := box2 hD3))
  rw [show (madeCells (Value.int .u32 0).cells ((n + k) * 1)).toList = digV .u32 (List.replicate (n + k) 0) by rw [Nat.mul_one]; exact made_zeros _] at hown1
  go_loopw [22] (fun i wr => ∃ (j : Nat) (os : List Nat), j ≤ n ∧ i = .int .i64 j ∧ wr.ownsRow (w.heap.size + 1 + 1 + 1) 110 1 (.slice (some ⟨w.heap.size + 1 + 1 + 1, 0, none⟩) (n + k) (n + k)) (n + k) (digV .u32 os) ∧ Digs B32 os ∧ (∀ p, j + k ≤ p → dg os p = 0) ∧
      val B32 os = val B32 (l.take j) * val B32 m ∧ Below (w.heap.size + 1 + 1 + 1) w4 wr) (fun i _ => n - (intOf i).toNat)
  case atStart => exact ⟨0, List.replicate (n + k) 0, Nat.zero_le _, rfl, hown1, digs_zeros (by decide) _, fun p _ => by simp [dg, List.getD_eq_getElem?_getD, List.getElem?_replicate]; split <;> rfl, by rw [val_zeros]; simp [val], Below.refl _ _⟩
  case round =>
    obtain ⟨j, os, hj, rfl, hown, gos, hzer, hval, hbel⟩ := hrel
    have HV := Lib.hid hval; have HZ := Lib.hid hzer; clear hval hzer
    have e10 := (hbel.cell (p := ⟨w.heap.size, 0, none⟩) (by simp; omega)).trans c10
    have e20 := (hbel.cell (p := ⟨w.heap.size + 1, 0, none⟩) (by simp)).trans c20
    have e21 := (hbel.cell (p := ⟨w.heap.size + 1, 1, none⟩) (by simp)).trans c21
    rcases Nat.lt_or_ge j n with hjn | hjn
    · obtain ⟨g, rfl, hg, hc1⟩ := hd.at_ (by omega)
      have hx := ((hbel.cell (p := ⟨g, j, none⟩) (by simp; omega)).trans (hbw.cell (p := ⟨g, j, none⟩) hg)).trans (hc1 j hjn)
      have b1 : dg l j < 4294967296 := dg_lt gl (by decide) j
      clear hc1
      go_wp2
      obtain ⟨wo, rfl⟩ : ∃ wo : World, wo = wr := ⟨_, rfl⟩
      go_loopw [8, 30] (fun cv i wr => ∃ (q cy : Nat) (ps : List Nat), q ≤ k ∧ cv = .int .u64 cy ∧ i = .int .i64 q ∧ cy < 4294967296 ∧ wr.ownsRow (w.heap.size + 1 + 1 + 1) 110 1 (.slice (some ⟨w.heap.size + 1 + 1 + 1, 0, none⟩) (n + k) (n + k)) (n + k) (digV .u32 ps) ∧ Digs B32 ps ∧ (∀ p, j + k ≤ p → dg ps p = 0) ∧
          val B32 ps + B32 ^ (j + q) * cy = val B32 (l.take j) * val B32 m + B32 ^ j * (dg l j * val B32 (m.take q)) ∧ Below (w.heap.size + 1 + 1 + 1) w4 wr) (fun _ i _ => k - (intOf i).toNat)
      case atStart => exact ⟨0, 0, os, Nat.zero_le _, rfl, rfl, by omega, hown, gos, HZ.out, by rw [HV.out]; simp [val], hbel⟩
      case round =>
        obtain ⟨q, cy, ps, hq, rfl, rfl, hcy, hown, gos, hzer, hval, hbel⟩ := hrel
        have HV := Lib.hid hval; have HZ := Lib.hid hzer; clear hval hzer
        rcases Nat.lt_or_ge q k with hqk | hqk
        · obtain ⟨g', rfl, hg', hc1⟩ := he.at_ (by omega)
          have hy := ((hbel.cell (p := ⟨g', q, none⟩) (by simp; omega)).trans (hbw.cell (p := ⟨g', q, none⟩) hg')).trans (hc1 q hqk)
          have b2 : dg m q < 4294967296 := dg_lt gm (by decide) q
          have b3 : dg ps (j + q) < 4294967296 := dg_lt gos (by decide) _
          have hz := row_cell hown (p := j + q) (by omega)
          have hf := hown.frozenAt (j + q)
          clear hc1
          go_wp2
          go_roundw
          case rel =>
            obtain ⟨r1, r2, r3⟩ := times_rel (by have := hown.1; rw [digV_length] at this; omega) HV.out gos hcy b1 b2
            refine ⟨q + 1, _, _, by omega, congrArg _ (by rw [mulw hcy b3 b1 b2]; unfold B32; omega), by go_num, r1, row_store hown (j + q) (by rw [mulw hcy b3 b1 b2]; unfold B32; omega), r2, fun p hp => ?_, r3, hbel.setCell (by simp) _⟩
            rw [dg_set_other (by omega)]
            exact HZ.out p hp
          case measure => simp [intOf]; omega
        · obtain rfl : q = k := by omega
          have hz := row_cell hown (p := j + q) (by omega)
          have hf := hown.frozenAt (j + q)
          have hz3 := HZ.out (j + q) (Nat.le_refl _)
          rw [hz3] at hz
          have HZ3 := Lib.hid hz3; clear hz3
          have e21 := (hbel.cell (p := ⟨w.heap.size + 1, 1, none⟩) (by simp)).trans c21
          go_wp2
          go_roundw
          case rel =>
            refine ⟨j + 1, ps.set (j + q) cy, by omega, by go_num, row_store hown (j + q) rfl, gos.set _ (by unfold B32; omega), fun p hp => ?_, times_last (by have := hown.1; rw [digV_length] at this; omega) HM.out HZ3.out HV.out, hbel.setCell (by simp) _⟩
            rw [dg_set_other (by omega)]
            exact HZ.out p (by omega)
          case measure => simp [intOf]; omega
    · obtain rfl : j = n := by omega
      have e11 := (hbel.cell (p := ⟨w.heap.size, 1, none⟩) (by simp; omega)).trans c11
      go_wp2_with fail
      refine (made_c os (!s == t) _ (j + k) (j + k) _ (Dig.of_own hown) (own_cap hown).1 (own_cap hown).2 gos).mono ?_
      rintro e w5 ⟨s5, A5, n5, c5, rfl, hv5, hb5⟩
      have hB5 := heap_below ((hbel.block (w.heap.size + 1 + 1) (by omega)).trans hD3) hb5
      obtain ⟨g0, g1, g2, g3, g4⟩ := box2 hB5
      go_wp2
      refine bodyPost_ret (v := .agg #[.bool s5, .slice A5 n5 c5]) (by simp [results, Tryz.results49, go_sem, g0, g1]) rfl ⟨s5, A5, n5, c5, rfl, ?_, ?_⟩
      · have e : sg (!s == t) (val B32 os) = x * y := by
          rw [HX.out, HY.out, HV.out, show l.take j = l from List.take_of_length_le (by rw [HL.out]; exact Nat.le_refl _)]
          exact sg_mul
        rw [e] at hv5
        exact hv5.box2 hB5 (by decide) _ _
      · go_grown
        exact below_then hb5 ((hbw).trans (hbel.mono (by omega))) (by have := hbel.size; have := hbw.size; omega)

end Go.Proofs.YtcfhaljkemaefaaGreatDoor

namespace Go.Proofs.YtcfhaljkemaefaaGreatDoor
open Go.RowKit Limb

theorem boxes4 (w : World) (x0 x1 y0 y1 z0 z1 u0 u1 : Value) (T U V X : TypeId) : ∀ w3, (((w.alloc (.cells #[x0, x1] T)).alloc (.cells #[y0, y1] U)).alloc (.cells #[z0, z1] V)).alloc (.cells #[u0, u1] X) = w3 →
    w3.heap[w.heap.size]? = some (.cells #[x0, x1] T (0, 0)) ∧ w3.heap[w.heap.size + 1]? = some (.cells #[y0, y1] U (0, 0)) ∧ w3.heap[w.heap.size + 1 + 1]? = some (.cells #[z0, z1] V (0, 0)) ∧ w3.heap[w.heap.size + 1 + 1 + 1]? = some (.cells #[u0, u1] X (0, 0)) ∧ Below w.heap.size w w3 := by
  intro w3 hw
  subst hw
  obtain ⟨h1, h2, h3, h4⟩ := boxes3 w x0 x1 y0 y1 z0 z1 T U V _ rfl
  exact ⟨heap_old h1 _, heap_old h2 _, heap_old h3 _, heap_new _ _ (by simp), h4.alloc h4.size _⟩

/-- What a call that makes two large numbers comes to. -/
def Makes2 (K : IntKind) (E : TypeId) (b : Nat) (w : World) (x y : Int) (e : Ending) (w' : World) : Prop :=
  ∃ s A n c t B k d, e = .returned (.tuple #[.agg #[.bool s, .slice A n c], .agg #[.bool t, .slice B k d]]) ∧ Big K E b w' s A n c x ∧ Big K E b w' t B k d y ∧ Below w.heap.size w w'

theorem set_bit32 {q : List Nat} {i t : Nat} (h : Digs B32 q) (hQ : val B32 q = 2 ^ (i + 1) * t) (hi : i / 32 < q.length) :
    val B32 (q.set (i / 32) (dg q (i / 32) ||| 2 ^ (i % 32))) = 2 ^ i * (2 * t + 1) := set_bit (q := q) h hQ hi
theorem val_bit32 {l : List Nat} (h : Digs B32 l) (i : Nat) : dg l (i / 32) / 2 ^ (i % 32) % 2 = val B32 l / 2 ^ i % 2 := val_bit (l := l) h i

/-- The bit that is put under the rest. -/
theorem rest_bit {l rs os : List Nat} {j : Nat} (gl : Digs B32 l) (gos : Digs B32 os) (hval : val B32 os = val B32 rs + val B32 rs) :
    bits .or .u32 ((dg os 0 : Nat) : Int) (bits .and .u32 (((dg l (j / 32) : Nat) : Int) / 2 ^ (j % 32)) 1) = ((dg os 0 + val B32 l / 2 ^ j % 2 : Nat) : Int) := by
  have h1 : dg l (j / 32) < 4294967296 := dg_lt gl (by decide) _
  have h2 : dg os 0 < 4294967296 := dg_lt gos (by decide) _
  have e0 : ((dg l (j / 32) : Nat) : Int) / 2 ^ (j % 32) = ((dg l (j / 32) / 2 ^ (j % 32) : Nat) : Int) := by
    rw [Int.natCast_ediv, Int.natCast_pow]; rfl
  have h3 : dg l (j / 32) / 2 ^ (j % 32) < 4294967296 := Nat.lt_of_le_of_lt (Nat.div_le_self _ _) h1
  rw [e0]
  have e1 := u32_and_nat (dg l (j / 32) / 2 ^ (j % 32)) 1 h3 (by omega)
  rw [Nat.and_one_is_mod, val_bit32 gl] at e1
  have e1' : bits .and .u32 ((dg l (j / 32) / 2 ^ (j % 32) : Nat) : Int) 1 = ((val B32 l / 2 ^ j % 2 : Nat) : Int) := e1
  rw [e1', u32_or_nat _ _ h2 (by omega)]
  have h4 : dg os 0 % 2 = 0 := by
    have := val_digit (b := B32) (by decide) gos 0
    rw [Nat.pow_zero, Nat.div_one] at this
    have h5 : dg os 0 = val B32 os % B32 := this.symm
    rw [h5, hval]
    unfold B32
    omega
  rw [or_bit h4 (by omega)]
theorem val_set0 {os : List Nat} {c : Nat} (h : 0 < os.length) : val B32 (os.set 0 (dg os 0 + c)) = val B32 os + c := by
  have := val_set B32 os 0 (dg os 0 + c) h
  rw [Nat.pow_zero, Nat.one_mul, Nat.one_mul] at this
  have e : os.getD 0 0 = dg os 0 := rfl
  omega

/-- The bit of the quotient. -/
theorem quot_bit {q : List Nat} {i t : Nat} (h : Digs B32 q) (_hQ : val B32 q = 2 ^ (i + 1) * t) :
    bits .or .u32 ((dg q (i / 32) : Nat) : Int) (2 ^ (i % 32) % 4294967296) = ((dg q (i / 32) ||| 2 ^ (i % 32) : Nat) : Int) ∧ dg q (i / 32) ||| 2 ^ (i % 32) < 4294967296 := by
  have h1 : dg q (i / 32) < 4294967296 := dg_lt h (by decide) _
  have h2 : 2 ^ (i % 32) < 4294967296 := Nat.lt_of_lt_of_le (Nat.pow_lt_pow_right (a := 2) (by omega) (Nat.mod_lt i (by omega : 0 < 32))) (by decide)
  have e : (2 : Int) ^ (i % 32) % 4294967296 = ((2 ^ (i % 32) : Nat) : Int) := by
    have e1 : (2 : Int) ^ (i % 32) = ((2 ^ (i % 32) : Nat) : Int) := by rw [Int.natCast_pow]; rfl
    rw [e1]; generalize 2 ^ (i % 32) = X at *; omega
  rw [e]
  exact ⟨u32_or_nat _ _ h1 h2, or_lt h1 (Nat.mod_lt i (by omega))⟩

theorem by_less {A b T r q0 bit j Q : Nat} (h : A / 2 ^ (j + 1) = T * b + r ∧ Q = 2 ^ (j + 1) * T) (hb : bit = A / 2 ^ j % 2) (hr : q0 = 2 * r + bit) : A / 2 ^ j = 2 * T * b + q0 ∧ Q = 2 ^ j * (2 * T) := by
  subst hr; subst hb
  exact div_step h.1 h.2
theorem by_more {A b T r q0 bit j Q : Nat} (h : A / 2 ^ (j + 1) = T * b + r ∧ Q = 2 ^ (j + 1) * T) (hb : bit = A / 2 ^ j % 2) (hr : q0 = 2 * r + bit) (hle : b ≤ q0) : A / 2 ^ j = (2 * T + 1) * b + (q0 - b) := by
  have h1 := (by_less h hb hr).1
  rw [Nat.add_mul, Nat.one_mul]
  omega
theorem by_end {A b T r : Nat} (h : A / 2 ^ 0 = T * b + r) (hr : r < b) : A / b = T ∧ A % b = r := by
  rw [Nat.pow_zero, Nat.div_one] at h
  subst h
  constructor
  · rw [Nat.mul_comm, Nat.mul_add_div (by omega), Nat.div_eq_of_lt hr, Nat.add_zero]
  · rw [Nat.mul_comm, Nat.mul_add_mod, Nat.mod_eq_of_lt hr]
theorem by_start {l : List Nat} {n b : Nat} (gl : Digs B32 l) (hl : l.length = n) : val B32 l / 2 ^ (n * 32) = 0 * b + val B32 [] := by
  have h := val_lt gl
  rw [hl] at h
  have e : B32 ^ n = 2 ^ (n * 32) := by
    rw [Nat.mul_comm, Nat.pow_mul]; rfl
  rw [e] at h
  rw [Nat.div_eq_of_lt h]; simp [val]

end Go.Proofs.YtcfhaljkemaefaaGreatDoor

namespace Go.Proofs.YtcfhaljkemaefaaGreatDoor
open Go.RowKit Limb

theorem val_even {l : List Nat} (g : Digs B32 l) : val B32 l % 2 = dg l 0 % 2 := by
  have := val_digit (b := B32) (by decide) g 0
  rw [Nat.pow_zero, Nat.div_one] at this
  have h5 : dg l 0 = val B32 l % B32 := this.symm
  rw [h5]; unfold B32; omega

/-- A number as an int, if it is not beyond a bound. -/
def fitB (z : Int) (most : Nat) : Bool := decide (z.natAbs ≤ most)
def fitV (z : Int) (most : Nat) : Int := if z.natAbs ≤ most then z else 0

theorem val_len1 {l : List Nat} (h : l.length = 1) : val B32 l = dg l 0 := by
  match l, h with
  | [a], _ => simp [val, dg]
theorem val_len2 {l : List Nat} (h : l.length = 2) : val B32 l = dg l 0 + 4294967296 * dg l 1 := by
  match l, h with
  | [a, b], _ => simp [val, dg, B32]
theorem or_one (x : Nat) (h : x < 4294967296) : bits .or .u64 0 (x : Int) = (x : Int) := by
  have := u64_or_nat 0 x (by omega) (by omega)
  rw [Nat.zero_or] at this
  exact this
theorem or_two (x y : Nat) (h : x < 4294967296) (h2 : y < 4294967296) : bits .or .u64 (x : Int) ((y : Int) * 4294967296) = ((x + 4294967296 * y : Nat) : Int) := by
  have e : (y : Int) * 4294967296 = ((y * 4294967296 : Nat) : Int) := by rw [Int.natCast_mul]; rfl
  have h3 := u64_or_nat x (y * 4294967296) (by omega) (by omega)
  have h4 := Nat.two_pow_add_eq_or_of_lt (i := 32) (b := x) (by omega) y
  rw [Nat.or_comm] at h4
  have e2 : 2 ^ 32 * y = y * 4294967296 := by rw [Nat.mul_comm]
  rw [e2] at h4
  rw [e, h3, ← h4]
  congr 1
  omega

set_option maxHeartbeats 1000000 in
set_option maxRecDepth 100000 in
theorem int_c (w : World) {s : Bool} {A : Option Addr} {n c : Nat} {z : Int} (most : Nat) (h : Big .u32 110 B32 w s A n c z) (hm : most ≤ 4611686018427387904) :
    Calls Tryz.prog 81 #[.agg #[.bool s, .slice A n c], .int .i64 (most : Int)] w fun e w' => e = .returned (.tuple #[.int .i64 (fitV z most), .bool (fitB z most)]) ∧ Below w.heap.size w w' := by
  obtain ⟨l, hd, hnc, hcm, gl, nl, sl, rfl⟩ := h
  rcases Nat.lt_or_ge 2 n with h2 | h2
  · have hv : most < val B32 l := by
      have h1 := val_ge (b := B32) nl (by intro e; have := hd.1; rw [e] at this; simp at this; omega)
      have h3 : B32 ^ 2 ≤ B32 ^ (l.length - 1) := Nat.pow_le_pow_right (by decide) (by rw [hd.1]; omega)
      have h4 : B32 ^ 2 = 18446744073709551616 := by decide
      omega
    have e1 : fitV (sg s (val B32 l)) most = 0 := by unfold fitV; rw [sg_natAbs, if_neg (by omega)]
    have e2 : fitB (sg s (val B32 l)) most = false := by unfold fitB; rw [sg_natAbs]; simp; omega
    rw [e1, e2]
    clear e1 e2 hv
    go_enter Tryz.func81, Tryz.ntmps81
    go_wp2
    go_ret2
    exact ⟨rfl, by go_grown⟩
  · have hv : val B32 l < 18446744073709551616 := by
      have h1 := val_lt gl
      have h3 : B32 ^ l.length ≤ B32 ^ 2 := Nat.pow_le_pow_right (by decide) (by rw [hd.1]; omega)
      have h4 : B32 ^ 2 = 18446744073709551616 := by decide
      omega
    have b0 : dg l 0 < 4294967296 := dg_lt gl (by decide) _
    have b1 : dg l 1 < 4294967296 := dg_lt gl (by decide) _
    have hl := hd.1
    have h3 : n = 0 ∨ n = 1 ∨ n = 2 := by omega
    rcases h3 with rfl | rfl | rfl
    · have hl0 : l = [] := List.length_eq_zero_iff.1 hl
      subst hl0
      have hs : s = false := by cases s with | false => rfl | true => exact absurd rfl (sl rfl)
      subst hs
      have e1 : fitV (sg false (val B32 [])) most = 0 := by simp [fitV, sg, val]
      have e2 : fitB (sg false (val B32 [])) most = true := by simp [fitB, sg, val]
      rw [e1, e2]
      have hm0 : (0 : Int) ≤ (most : Int) := by omega
      clear e1 e2 hv sl
      go_enter Tryz.func81, Tryz.ntmps81
      go_wp2
      go_rounds 1
      go_ret2
      exact ⟨rfl, by go_grown⟩
    · obtain ⟨g, rfl, hg, hc1⟩ := hd.at_ (by omega)
      have hx := (World.cell?_alloc_lt (w := w) (o := .cells #[.bool s, .slice (some ⟨g, 0, none⟩) 1 c] 91) (a := ⟨g, 0, none⟩) hg).trans (hc1 0 (by omega))
      clear hc1
      have u1 : bits .or .u64 0 ((dg l 0 : Nat) : Int) = ((val B32 l : Nat) : Int) := by rw [val_len1 hl]; exact or_one _ b0
      clear hl
      rcases Nat.lt_or_ge most (val B32 l) with hcmp | hcmp
      · have e1 : fitV (sg s (val B32 l)) most = 0 := by unfold fitV; rw [sg_natAbs, if_neg (by omega)]
        have e2 : fitB (sg s (val B32 l)) most = false := by unfold fitB; rw [sg_natAbs]; simp; omega
        rw [e1, e2]
        clear e1 e2
        have hc' : (most : Int) < ((val B32 l : Nat) : Int) := by omega
        go_enter Tryz.func81, Tryz.ntmps81
        go_wp2
        go_rounds 2
        go_ret2
        exact ⟨rfl, by go_grown⟩
      · have e1 : fitV (sg s (val B32 l)) most = sg s (val B32 l) := by unfold fitV; rw [sg_natAbs, if_pos (by omega)]
        have e2 : fitB (sg s (val B32 l)) most = true := by unfold fitB; rw [sg_natAbs]; simp; omega
        rw [e1, e2]
        clear e1 e2
        have hc' : ¬ (most : Int) < ((val B32 l : Nat) : Int) := by omega
        cases s with
        | true =>
          go_enter Tryz.func81, Tryz.ntmps81
          go_wp2
          go_rounds 2
          go_ret2
          exact ⟨rfl, by go_grown⟩
        | false =>
          go_enter Tryz.func81, Tryz.ntmps81
          go_wp2
          go_rounds 2
          go_ret2
          exact ⟨rfl, by go_grown⟩
    · obtain ⟨g, rfl, hg, hc1⟩ := hd.at_ (by omega)
      have hx := (World.cell?_alloc_lt (w := w) (o := .cells #[.bool s, .slice (some ⟨g, 0, none⟩) 2 c] 91) (a := ⟨g, 0, none⟩) hg).trans (hc1 0 (by omega))
      have hx1 := (World.cell?_alloc_lt (w := w) (o := .cells #[.bool s, .slice (some ⟨g, 0, none⟩) 2 c] 91) (a := ⟨g, 1, none⟩) hg).trans (hc1 1 (by omega))
      clear hc1
      have u1 : bits .or .u64 0 ((dg l 0 : Nat) : Int) = ((dg l 0 : Nat) : Int) := or_one _ b0
      have u2 : bits .or .u64 ((dg l 0 : Nat) : Int) (((dg l 1 : Nat) : Int) * 4294967296) = ((val B32 l : Nat) : Int) := by rw [val_len2 hl]; exact or_two _ _ b0 b1
      clear hl
      rcases Nat.lt_or_ge most (val B32 l) with hcmp | hcmp
      · have e1 : fitV (sg s (val B32 l)) most = 0 := by unfold fitV; rw [sg_natAbs, if_neg (by omega)]
        have e2 : fitB (sg s (val B32 l)) most = false := by unfold fitB; rw [sg_natAbs]; simp; omega
        rw [e1, e2]
        clear e1 e2
        have hc' : (most : Int) < ((val B32 l : Nat) : Int) := by omega
        go_enter Tryz.func81, Tryz.ntmps81
        go_wp2
        go_rounds 3
        go_ret2
        exact ⟨rfl, by go_grown⟩
      · have e1 : fitV (sg s (val B32 l)) most = sg s (val B32 l) := by unfold fitV; rw [sg_natAbs, if_pos (by omega)]
        have e2 : fitB (sg s (val B32 l)) most = true := by unfold fitB; rw [sg_natAbs]; simp; omega
        rw [e1, e2]
        clear e1 e2
        have hc' : ¬ (most : Int) < ((val B32 l : Nat) : Int) := by omega
        cases s with
        | true =>
          go_enter Tryz.func81, Tryz.ntmps81
          go_wp2
          go_rounds 3
          go_ret2
          exact ⟨rfl, by go_grown⟩
        | false =>
          go_enter Tryz.func81, Tryz.ntmps81
          go_wp2
          go_rounds 3
          go_ret2
          exact ⟨rfl, by go_grown⟩

end Go.Proofs.YtcfhaljkemaefaaGreatDoor

namespace Go.Proofs.YtcfhaljkemaefaaGreatDoor
open Go.RowKit Limb

theorem small_pow {j : Nat} (h : j ≤ 150) : Small ((10 ^ j : Nat) : Int) := by
  unfold Small
  rw [Int.natAbs_natCast]
  exact Nat.pow_lt_pow_right (by omega) (by omega)
theorem small_of_le {z : Int} (h1 : -10000000000000000000000000000000000000000 ≤ z) (h2 : z ≤ 10000000000000000000000000000000000000000) : Small z := by
  unfold Small
  have : 10000000000000000000000000000000000000000 < 10 ^ 200 := by decide
  omega

end Go.Proofs.YtcfhaljkemaefaaGreatDoor
