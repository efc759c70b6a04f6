/- The walk of package whole: Times. The walk of package whole: By. The walks of package whole: Odd, Int, Power. The walk of package whole: Power. -/
import Derived.Test.YtbnjejenejoibaaGreatDoorF6
import Derived.Deep.RegionWith
import Derived.Test.YtbnjejenejoibaaGreatDoorS1
-- merged: W6 W7 W8 W9 A1 A2 A3
namespace Go.Proofs.YtbnjejenejoibaaGreatDoor
open Go.RowKit Limb
theorem row_cell {w : World} {B : Nat} {E : TypeId} {g N c : Nat} {os : List Nat} (h : w.ownsRow B E 1 (.slice (some ⟨g, 0, none⟩) N c) N (digV .u32 os)) {p : Nat} (hp : p < N) : w.cell? ⟨g, p, none⟩ = some (.int .u32 ((dg os p : Nat) : Int)) := by
 have hl := h.1
 rw [digV_length] at hl
 rw [h.cellAt p (by omega)]
 exact digV_get _ (by omega)
theorem row_store {w : World} {B : Nat} {E : TypeId} {g N c : Nat} {os : List Nat} (h : w.ownsRow B E 1 (.slice (some ⟨g, 0, none⟩) N c) N (digV .u32 os)) (p : Nat) {X : Int} {x : Nat} (hx : X = (x : Int)) :
  (w.setCell ⟨g, p, none⟩ (.int .u32 X)).ownsRow B E 1 (.slice (some ⟨g, 0, none⟩) N c) N (digV .u32 (os.set p x)) := by
 subst hx; rw [digV_set]; exact (h.stored p _).1
theorem dg_set_other {l : List Nat} {k j d : Nat} (h : j ≠ k) : dg (l.set k d) j = dg l j := getD_set_other h
theorem made_zeros (n : Nat) : (madeCells #[Value.int .u32 0] n).toList = digV .u32 (List.replicate n 0) := by
 rw [toList_madeCells_one]; simp [digV]
theorem sg_mul {s t : Bool} {a b : Nat} : sg (!s == t) (a * b) = sg s a * sg t b := by cases s <;> cases t <;> simp [sg, Int.neg_mul, Int.mul_neg]
theorem mulw {cy o x y : Nat} (h1 : cy < 4294967296) (h2 : o < 4294967296) (h3 : x < 4294967296) (h4 : y < 4294967296) :
  IntKind.u64.wrap ((cy : Int) + IntKind.u64.wrap ((o : Int) + IntKind.u64.wrap ((x : Int) * (y : Int)))) = ((cy + o + x * y : Nat) : Int) := by
 have h5 : x * y <= 4294967295 * 4294967295 := Nat.mul_le_mul (by omega) (by omega)
 rw [<- Int.natCast_mul]
 generalize x * y = p at *
 rw [u64w, u64w, u64w]
 omega
theorem times_rel {l m ps : List Nat} {j q cy : Nat} (hlt : j + q < ps.length) (hval : val B32 ps + B32 ^ (j + q) * cy = val B32 (l.take j) * val B32 m + B32 ^ j * (dg l j * val B32 (m.take q))) (gs : Digs B32 ps)
  (h1 : cy < 4294967296) (h3 : dg l j < 4294967296) (h4 : dg m q < 4294967296) :
  let t := cy + dg ps (j + q) + dg l j * dg m q
  t / B32 < 4294967296 /\ Digs B32 (ps.set (j + q) (t % B32)) /\ val B32 (ps.set (j + q) (t % B32)) + B32 ^ (j + (q + 1)) * (t / B32) = val B32 (l.take j) * val B32 m + B32 ^ j * (dg l j * val B32 (m.take (q + 1))) := by
 intro t
 have h2 : dg ps (j + q) < 4294967296 := dg_lt gs (by decide) _
 refine ⟨mul_carry h1 h2 h3 h4, gs.set _ (Nat.mod_lt _ (by decide)), ?_⟩
 have h := mul_step (b := B32) (m := dg l j * dg m q) hlt hval
 have e1 : j + (q + 1) = j + q + 1 := by omega
 rw [e1]
 refine Eq.trans h ?_
 rw [val_take_succ, Nat.mul_add, Nat.mul_add, Nat.pow_add]
 have e2 : B32 ^ j * B32 ^ q * (dg l j * dg m q) = B32 ^ j * (dg l j * (B32 ^ q * m.getD q 0)) := by
  show _ = B32 ^ j * (dg l j * (B32 ^ q * dg m q))
  rw [Nat.mul_assoc, Nat.mul_left_comm (B32 ^ q)]
 rw [e2, Nat.add_assoc]
theorem times_last {l m ps : List Nat} {j k cy : Nat} (hlt : j + k < ps.length) (hk : m.length = k) (hz : dg ps (j + k) = 0) (hval : val B32 ps + B32 ^ (j + k) * cy = val B32 (l.take j) * val B32 m + B32 ^ j * (dg l j * val B32 (m.take k))) :
  val B32 (ps.set (j + k) cy) = val B32 (l.take (j + 1)) * val B32 m := by
 have h := val_set B32 ps (j + k) cy hlt
 have hz' : ps.getD (j + k) 0 = 0 := hz
 rw [hz', Nat.mul_zero, Nat.add_zero, hval, show m.take k = m from List.take_of_length_le (by omega)] at h
 rw [h, val_take_succ, Nat.add_mul, Nat.mul_assoc]
 rfl
set_option maxHeartbeats 4000000 in
set_option maxRecDepth 100000 in
theorem times_c (w : World) {s t : Bool} {A B : Option Addr} {n c k d : Nat} {x y : Int} (ha : Big .u32 196 B32 w s A n c x) (hb : Big .u32 196 B32 w t B k d y) (sx : Small x) (sy : Small y) :
  Calls Tryz.prog 133 #[.agg #[.bool s, .slice A n c], .agg #[.bool t, .slice B k d]] w (Makes .u32 196 B32 w (x * y)) := by
 obtain ⟨l, hd, hnc, hcm, gl, nl, sl, hx⟩ := ha
 obtain ⟨m, he, hkd, hdm, gm, nm, sm, hy⟩ := hb
 have hn : n <= 1000 := by rw [<- hd.1]; rw [hx] at sx; have := small_len32 nl sx; omega
 have hk : k <= 1000 := by rw [<- he.1]; rw [hy] at sy; have := small_len32 nm sy; omega
 have HX := Lib.hid hx; have HY := Lib.hid hy; clear hx hy
 have HL := Lib.hid hd.1; have HM := Lib.hid he.1
 clear sx sy
 obtain ⟨i0, hi, hz0, hz1, hz2⟩ := info_parts Tryz.info196
 go_enter Tryz.func133, Tryz.ntmps133
 go_wp2_with (first
  | (at_make
     refine wpList_make_full _ rfl _ _ 109 rfl (w.heap.size + 1 + 1 + 1) 196 i0 (.int .u32 0) 1 Tryz.underlying109 hi hz0 hz1 .i64 .i64 _ _ (n + k) rfl rfl (by omega) (by omega) (by rw [hz2]; omega) (by unfold maxLen; omega) (by simp) ?_
     intro w4 hown1 hg1
     obtain ⟨hB1, hB2, hB3, hbel⟩ := boxes3 w (.bool s) (.slice A n c) (.bool t) (.slice B k d) (.bool false) (.slice none 0 0) 111 111 111 _ rfl
     have hb4 := (Below.refl _ _).grown hg1 (Nat.le_refl _) (fun _ h => by cases h)
     have hbw := below_then hb4 hbel hbel.size
     have hD1 := heap_below hB1 hb4
     have hD2 := heap_below hB2 hb4
     have hD3 := heap_below hB3 hb4
     clear hB1 hB2 hB3
     clear hb4
     simp only [World.size_alloc] at hown1
     clear hg1 hbel
     obtain ⟨c10, c11, -, -, z1⟩ := box2 hD1
     obtain ⟨c20, c21, -, -, z2⟩ := box2 hD2
     obtain ⟨-, -, -, -, z3⟩ := box2 hD3))
 rw [show (madeCells (Value.int .u32 0).cells ((n + k) * 1)).toList = digV .u32 (List.replicate (n + k) 0) by rw [Nat.mul_one]; exact made_zeros _] at hown1
 go_loopw [22] (fun i wr => ∃ (j : Nat) (os : List Nat), j <= n /\ i = .int .i64 j /\ wr.ownsRow (w.heap.size + 1 + 1 + 1) 196 1 (.slice (some ⟨w.heap.size + 1 + 1 + 1, 0, none⟩) (n + k) (n + k)) (n + k) (digV .u32 os) /\ Digs B32 os /\ (∀ p, j + k <= p -> dg os p = 0) /\
   val B32 os = val B32 (l.take j) * val B32 m /\ Below (w.heap.size + 1 + 1 + 1) w4 wr) (fun i _ => n - (intOf i).toNat)
 case atStart => exact ⟨0, List.replicate (n + k) 0, Nat.zero_le _, rfl, hown1, digs_zeros (by decide) _, fun p _ => by simp [dg, List.getD_eq_getElem?_getD, List.getElem?_replicate]; split <;> rfl, by rw [val_zeros]; simp [val], Below.refl _ _⟩
 case round =>
  obtain ⟨j, os, hj, rfl, hown, gos, hzer, hval, hbel⟩ := hrel
  have HV := Lib.hid hval; have HZ := Lib.hid hzer; clear hval hzer
  have e10 := (hbel.cell (p := ⟨w.heap.size, 0, none⟩) (by simp; omega)).trans c10
  have e20 := (hbel.cell (p := ⟨w.heap.size + 1, 0, none⟩) (by simp)).trans c20
  have e21 := (hbel.cell (p := ⟨w.heap.size + 1, 1, none⟩) (by simp)).trans c21
  rcases Nat.lt_or_ge j n with hjn | hjn
  ·obtain ⟨g, rfl, hg, hc1⟩ := hd.at_ (by omega)
   have hx := ((hbel.cell (p := ⟨g, j, none⟩) (by simp; omega)).trans (hbw.cell (p := ⟨g, j, none⟩) hg)).trans (hc1 j hjn)
   have b1 : dg l j < 4294967296 := dg_lt gl (by decide) j
   clear hc1
   go_wp2
   obtain ⟨wo, rfl⟩ : ∃ wo : World, wo = wr := ⟨_, rfl⟩
   go_loopw [8, 30] (fun cv i wr => ∃ (q cy : Nat) (ps : List Nat), q <= k /\ cv = .int .u64 cy /\ i = .int .i64 q /\ cy < 4294967296 /\ wr.ownsRow (w.heap.size + 1 + 1 + 1) 196 1 (.slice (some ⟨w.heap.size + 1 + 1 + 1, 0, none⟩) (n + k) (n + k)) (n + k) (digV .u32 ps) /\ Digs B32 ps /\ (∀ p, j + k <= p -> dg ps p = 0) /\
     val B32 ps + B32 ^ (j + q) * cy = val B32 (l.take j) * val B32 m + B32 ^ j * (dg l j * val B32 (m.take q)) /\ Below (w.heap.size + 1 + 1 + 1) w4 wr) (fun _ i _ => k - (intOf i).toNat)
   case atStart => exact ⟨0, 0, os, Nat.zero_le _, rfl, rfl, by omega, hown, gos, HZ.out, by rw [HV.out]; simp [val], hbel⟩
   case round =>
    obtain ⟨q, cy, ps, hq, rfl, rfl, hcy, hown, gos, hzer, hval, hbel⟩ := hrel
    have HV := Lib.hid hval; have HZ := Lib.hid hzer; clear hval hzer
    rcases Nat.lt_or_ge q k with hqk | hqk
    ·obtain ⟨g', rfl, hg', hc1⟩ := he.at_ (by omega)
     have hy := ((hbel.cell (p := ⟨g', q, none⟩) (by simp; omega)).trans (hbw.cell (p := ⟨g', q, none⟩) hg')).trans (hc1 q hqk)
     have b2 : dg m q < 4294967296 := dg_lt gm (by decide) q
     have b3 : dg ps (j + q) < 4294967296 := dg_lt gos (by decide) _
     have hz := row_cell hown (p := j + q) (by omega)
     have hf := hown.frozenAt (j + q)
     clear hc1
     go_wp2
     go_roundw
     case rel =>
      obtain ⟨r1, r2, r3⟩ := times_rel (by have := hown.1; rw [digV_length] at this; omega) HV.out gos hcy b1 b2
      refine ⟨q + 1, _, _, by omega, congrArg _ (by rw [mulw hcy b3 b1 b2]; unfold B32; omega), by go_num, r1, row_store hown (j + q) (by rw [mulw hcy b3 b1 b2]; unfold B32; omega), r2, fun p hp => ?_, r3, hbel.setCell (by simp) _⟩
      rw [dg_set_other (by omega)]
      exact HZ.out p hp
     case measure => simp [intOf]; omega
    ·obtain rfl : q = k := by omega
     have hz := row_cell hown (p := j + q) (by omega)
     have hf := hown.frozenAt (j + q)
     have hz3 := HZ.out (j + q) (Nat.le_refl _)
     rw [hz3] at hz
     have HZ3 := Lib.hid hz3; clear hz3
     have e21 := (hbel.cell (p := ⟨w.heap.size + 1, 1, none⟩) (by simp)).trans c21
     go_wp2
     go_roundw
     case rel =>
      refine ⟨j + 1, ps.set (j + q) cy, by omega, by go_num, row_store hown (j + q) rfl, gos.set _ (by unfold B32; omega), fun p hp => ?_, times_last (by have := hown.1; rw [digV_length] at this; omega) HM.out HZ3.out HV.out, hbel.setCell (by simp) _⟩
      rw [dg_set_other (by omega)]
      exact HZ.out p (by omega)
     case measure => simp [intOf]; omega
  ·obtain rfl : j = n := by omega
   have e11 := (hbel.cell (p := ⟨w.heap.size, 1, none⟩) (by simp; omega)).trans c11
   go_wp2_with fail
   refine (made_c os (!s == t) _ (j + k) (j + k) _ (Dig.of_own hown) (own_cap hown).1 (own_cap hown).2 gos).mono ?_
   rintro e w5 ⟨s5, A5, n5, c5, rfl, hv5, hb5⟩
   have hB5 := heap_below ((hbel.block (w.heap.size + 1 + 1) (by omega)).trans hD3) hb5
   obtain ⟨g0, g1, g2, g3, g4⟩ := box2 hB5
   go_wp2
   refine bodyPost_ret (v := .agg #[.bool s5, .slice A5 n5 c5]) (by simp [results, Tryz.results133, go_sem, g0, g1]) rfl ⟨s5, A5, n5, c5, rfl, ?_, ?_⟩
   ·have e : sg (!s == t) (val B32 os) = x * y := by
     rw [HX.out, HY.out, HV.out, show l.take j = l from List.take_of_length_le (by rw [HL.out]; exact Nat.le_refl _)]
     exact sg_mul
    rw [e] at hv5
    exact hv5.box2 hB5 (by decide) _ _
   ·go_grown
    exact below_then hb5 ((hbw).trans (hbel.mono (by omega))) (by have := hbel.size; have := hbw.size; omega)
def fitB (z : Int) (most : Nat) : Bool := decide (z.natAbs <= most)
def fitV (z : Int) (most : Nat) : Int := if z.natAbs <= most then z else 0
theorem val_len1 {l : List Nat} (h : l.length = 1) : val B32 l = dg l 0 := by
 match l, h with
 | [a], _ => simp [val, dg]
theorem val_len2 {l : List Nat} (h : l.length = 2) : val B32 l = dg l 0 + 4294967296 * dg l 1 := by
 match l, h with
 | [a, b], _ => simp [val, dg, B32]
theorem or_one (x : Nat) (h : x < 4294967296) : bits .or .u64 0 (x : Int) = (x : Int) := by
 have := u64_or_nat 0 x (by omega) (by omega)
 rw [Nat.zero_or] at this
 exact this
theorem or_two (x y : Nat) (h : x < 4294967296) (h2 : y < 4294967296) : bits .or .u64 (x : Int) ((y : Int) * 4294967296) = ((x + 4294967296 * y : Nat) : Int) := by
 have e : (y : Int) * 4294967296 = ((y * 4294967296 : Nat) : Int) := by rw [Int.natCast_mul]; rfl
 have h3 := u64_or_nat x (y * 4294967296) (by omega) (by omega)
 have h4 := Nat.two_pow_add_eq_or_of_lt (i := 32) (b := x) (by omega) y
 rw [Nat.or_comm] at h4
 have e2 : 2 ^ 32 * y = y * 4294967296 := by rw [Nat.mul_comm]
 rw [e2] at h4
 rw [e, h3, <- h4]
 congr 1
 omega
set_option maxHeartbeats 1000000 in
set_option maxRecDepth 100000 in
theorem int_c (w : World) {s : Bool} {A : Option Addr} {n c : Nat} {z : Int} (most : Nat) (h : Big .u32 196 B32 w s A n c z) (hm : most <= 4611686018427387904) :
  Calls Tryz.prog 193 #[.agg #[.bool s, .slice A n c], .int .i64 (most : Int)] w fun e w' => e = .returned (.tuple #[.int .i64 (fitV z most), .bool (fitB z most)]) /\ Below w.heap.size w w' := by
 obtain ⟨l, hd, hnc, hcm, gl, nl, sl, rfl⟩ := h
 rcases Nat.lt_or_ge 2 n with h2 | h2
 ·have hv : most < val B32 l := by
   have h1 := val_ge (b := B32) nl (by intro e; have := hd.1; rw [e] at this; simp at this; omega)
   have h3 : B32 ^ 2 <= B32 ^ (l.length - 1) := Nat.pow_le_pow_right (by decide) (by rw [hd.1]; omega)
   have h4 : B32 ^ 2 = 18446744073709551616 := by decide
   omega
  have e1 : fitV (sg s (val B32 l)) most = 0 := by unfold fitV; rw [sg_natAbs, if_neg (by omega)]
  have e2 : fitB (sg s (val B32 l)) most = false := by unfold fitB; rw [sg_natAbs]; simp; omega
  rw [e1, e2]
  clear e1 e2 hv
  go_enter Tryz.func193, Tryz.ntmps193
  go_wp2
  go_ret2
  exact ⟨rfl, by go_grown⟩
 ·have hv : val B32 l < 18446744073709551616 := by
   have h1 := val_lt gl
   have h3 : B32 ^ l.length <= B32 ^ 2 := Nat.pow_le_pow_right (by decide) (by rw [hd.1]; omega)
   have h4 : B32 ^ 2 = 18446744073709551616 := by decide
   omega
  have b0 : dg l 0 < 4294967296 := dg_lt gl (by decide) _
  have b1 : dg l 1 < 4294967296 := dg_lt gl (by decide) _
  have hl := hd.1
  have h3 : n = 0 ∨ n = 1 ∨ n = 2 := by omega
  rcases h3 with rfl | rfl | rfl
  ·have hl0 : l = [] := List.length_eq_zero_iff.1 hl
   subst hl0
   have hs : s = false := by cases s with | false => rfl | true => exact absurd rfl (sl rfl)
   subst hs
   have e1 : fitV (sg false (val B32 [])) most = 0 := by simp [fitV, sg, val]
   have e2 : fitB (sg false (val B32 [])) most = true := by simp [fitB, sg, val]
   rw [e1, e2]
   have hm0 : (0 : Int) <= (most : Int) := by omega
   clear e1 e2 hv sl
   go_enter Tryz.func193, Tryz.ntmps193
   go_wp2
   go_rounds 1
   go_ret2
   exact ⟨rfl, by go_grown⟩
  ·obtain ⟨g, rfl, hg, hc1⟩ := hd.at_ (by omega)
   have hx := (World.cell?_alloc_lt (w := w) (o := .cells #[.bool s, .slice (some ⟨g, 0, none⟩) 1 c] 111) (a := ⟨g, 0, none⟩) hg).trans (hc1 0 (by omega))
   clear hc1
   have u1 : bits .or .u64 0 ((dg l 0 : Nat) : Int) = ((val B32 l : Nat) : Int) := by rw [val_len1 hl]; exact or_one _ b0
   clear hl
   rcases Nat.lt_or_ge most (val B32 l) with hcmp | hcmp
   ·have e1 : fitV (sg s (val B32 l)) most = 0 := by unfold fitV; rw [sg_natAbs, if_neg (by omega)]
    have e2 : fitB (sg s (val B32 l)) most = false := by unfold fitB; rw [sg_natAbs]; simp; omega
    rw [e1, e2]
    clear e1 e2
    have hc' : (most : Int) < ((val B32 l : Nat) : Int) := by omega
    go_enter Tryz.func193, Tryz.ntmps193
    go_wp2
    go_rounds 2
    go_ret2
    exact ⟨rfl, by go_grown⟩
   ·have e1 : fitV (sg s (val B32 l)) most = sg s (val B32 l) := by unfold fitV; rw [sg_natAbs, if_pos (by omega)]
    have e2 : fitB (sg s (val B32 l)) most = true := by unfold fitB; rw [sg_natAbs]; simp; omega
    rw [e1, e2]
    clear e1 e2
    have hc' : ¬ (most : Int) < ((val B32 l : Nat) : Int) := by omega
    cases s with
    | true =>
     go_enter Tryz.func193, Tryz.ntmps193
     go_wp2
     go_rounds 2
     go_ret2
     exact ⟨rfl, by go_grown⟩
    | false =>
     go_enter Tryz.func193, Tryz.ntmps193
     go_wp2
     go_rounds 2
     go_ret2
     exact ⟨rfl, by go_grown⟩
  ·obtain ⟨g, rfl, hg, hc1⟩ := hd.at_ (by omega)
   have hx := (World.cell?_alloc_lt (w := w) (o := .cells #[.bool s, .slice (some ⟨g, 0, none⟩) 2 c] 111) (a := ⟨g, 0, none⟩) hg).trans (hc1 0 (by omega))
   have hx1 := (World.cell?_alloc_lt (w := w) (o := .cells #[.bool s, .slice (some ⟨g, 0, none⟩) 2 c] 111) (a := ⟨g, 1, none⟩) hg).trans (hc1 1 (by omega))
   clear hc1
   have u1 : bits .or .u64 0 ((dg l 0 : Nat) : Int) = ((dg l 0 : Nat) : Int) := or_one _ b0
   have u2 : bits .or .u64 ((dg l 0 : Nat) : Int) (((dg l 1 : Nat) : Int) * 4294967296) = ((val B32 l : Nat) : Int) := by rw [val_len2 hl]; exact or_two _ _ b0 b1
   clear hl
   rcases Nat.lt_or_ge most (val B32 l) with hcmp | hcmp
   ·have e1 : fitV (sg s (val B32 l)) most = 0 := by unfold fitV; rw [sg_natAbs, if_neg (by omega)]
    have e2 : fitB (sg s (val B32 l)) most = false := by unfold fitB; rw [sg_natAbs]; simp; omega
    rw [e1, e2]
    clear e1 e2
    have hc' : (most : Int) < ((val B32 l : Nat) : Int) := by omega
    go_enter Tryz.func193, Tryz.ntmps193
    go_wp2
    go_rounds 3
    go_ret2
    exact ⟨rfl, by go_grown⟩
   ·have e1 : fitV (sg s (val B32 l)) most = sg s (val B32 l) := by unfold fitV; rw [sg_natAbs, if_pos (by omega)]
    have e2 : fitB (sg s (val B32 l)) most = true := by unfold fitB; rw [sg_natAbs]; simp; omega
    rw [e1, e2]
    clear e1 e2
    have hc' : ¬ (most : Int) < ((val B32 l : Nat) : Int) := by omega
    cases s with
    | true =>
     go_enter Tryz.func193, Tryz.ntmps193
     go_wp2
     go_rounds 3
     go_ret2
     exact ⟨rfl, by go_grown⟩
    | false =>
     go_enter Tryz.func193, Tryz.ntmps193
     go_wp2
     go_rounds 3
     go_ret2
     exact ⟨rfl, by go_grown⟩
theorem small_pow {j : Nat} (h : j <= 150) : Small ((10 ^ j : Nat) : Int) := by
 unfold Small
 rw [Int.natAbs_natCast]
 exact Nat.pow_lt_pow_right (by omega) (by omega)
theorem small_of_le {z : Int} (h1 : -10000000000000000000000000000000000000000 <= z) (h2 : z <= 10000000000000000000000000000000000000000) : Small z := by
 unfold Small
 have : 10000000000000000000000000000000000000000 < 10 ^ 200 := by decide
 omega
set_option maxHeartbeats 4000000 in
set_option maxRecDepth 100000 in
theorem power_c (n : Nat) (w : World) (hn : n <= 100) :
  Calls Tryz.prog 137 #[.int .i64 (n : Int)] w (Makes .u32 196 B32 w ((10 ^ n : Nat) : Int)) := by
 have hs10 : Small 10 := small_of_le (by omega) (by omega)
 go_enter Tryz.func137, Tryz.ntmps137
 go_wp2_with fail
 refine (of_c 1 _ (by omega) (by omega)).mono ?_
 rintro e w1 ⟨s1, A1, n1, c1, rfl, hv, hb⟩
 have hB := heap_below (heap_new w _ rfl) hb
 have hbw := below_then hb ((Below.refl _ _).alloc (Nat.le_refl _) _) (by simp)
 obtain ⟨-, -, -, -, z1⟩ := box2 hB
 go_wp2
 have hz1 := hbw.size
 go_loopw [6] (fun i wr => ∃ (j : Nat) (t : Bool) (A : Option Addr) (k c : Nat), j <= n /\ i = .int .i64 j /\ wr.heap[w1.heap.size]? = some (.cells #[.bool t, .slice A k c] 111 (0, 0)) /\ wr.heap[w.heap.size]? = some (.cells #[.bool false, .slice none 0 0] 111 (0, 0)) /\
   Big .u32 196 B32 wr t A k c ((10 ^ j : Nat) : Int) /\ Below w.heap.size w wr) (fun i _ => n - (intOf i).toNat)
 case atStart => exact ⟨0, s1, A1, n1, c1, Nat.zero_le _, rfl, heap_new _ _ rfl, heap_old hB _, by exact hv.alloc _, hbw.alloc hz1 _⟩
 case round =>
  obtain ⟨j, t, A, k, c, hj, rfl, hO, hR, hbig, hbel⟩ := hrel
  have hzr := hbel.size
  obtain ⟨o0, o1, of0, of1, oz⟩ := box2 hO
  rcases Nat.lt_or_ge j n with hjn | hjn
  ·go_wp2_with fail
   go_region_with
    (first
     | (go_at_call 132; refine (of_c 10 _ (by omega) (by omega)).mono ?_; rintro e w4 ⟨s4, A4, n4, c4, rfl, hv4, hb4⟩; (have q1 := box2 (heap_below (w := wr.drew) hO hb4)); obtain ⟨r10, r11, -, -, -⟩ := q1)
     | (go_at_call 133; refine (times_c _ (by exact Big.below (w := wr.drew) hbig hb4) hv4 (small_pow (by omega)) hs10).mono ?_; rintro e w5 ⟨s5, A5, n5, c5, rfl, hv5, hb5⟩; (have hB5 := heap_below (heap_below (w := wr.drew) hO hb4) hb5); obtain ⟨g0, g1, g2, g3, g4⟩ := box2 hB5))
   all_goals
    have hR5 := heap_below (heap_below (w := wr.drew) hR hb4) hb5
    have hpw : ((10 ^ j : Nat) : Int) * 10 = ((10 ^ (j + 1) : Nat) : Int) := by rw [Nat.pow_succ, Int.natCast_mul]; rfl
    rw [hpw] at hv5
    clear hpw
    have hN : Big .u32 196 B32 ((w5.setCell ⟨w1.heap.size, 0, none⟩ (.bool s5)).setCell ⟨w1.heap.size, 1, none⟩ (.slice A5 n5 c5)) s5 A5 n5 c5 ((10 ^ (j + 1) : Nat) : Int) := hv5.box2 hB5 (by decide) _ _
    have hO' : ((w5.setCell ⟨w1.heap.size, 0, none⟩ (.bool s5)).setCell ⟨w1.heap.size, 1, none⟩ (.slice A5 n5 c5)).heap[w1.heap.size]? = some (.cells #[.bool s5, .slice A5 n5 c5] 111 (0, 0)) := heap_set (heap_set hB5 0 _) 1 _
    have hR' : ((w5.setCell ⟨w1.heap.size, 0, none⟩ (.bool s5)).setCell ⟨w1.heap.size, 1, none⟩ (.slice A5 n5 c5)).heap[w.heap.size]? = some (.cells #[.bool false, .slice none 0 0] 111 (0, 0)) := heap_far (heap_far hR5 (by simp; omega) _) (by simp; omega) _
    have hb' : Below w.heap.size w ((w5.setCell ⟨w1.heap.size, 0, none⟩ (.bool s5)).setCell ⟨w1.heap.size, 1, none⟩ (.slice A5 n5 c5)) := ((below_then hb5 (below_then hb4 hbel.drew hzr) (Nat.le_trans hzr hb4.size)).setCell (by simp; omega) _).setCell (by simp; omega) _
    generalize (w5.setCell ⟨w1.heap.size, 0, none⟩ (.bool s5)).setCell ⟨w1.heap.size, 1, none⟩ (.slice A5 n5 c5) = w6 at hN hO' hR' hb' ⊢
    clear hv5 hB5 hR5 hb5 hb4 g0 g1 g2 g3 g4
    go_wp2
    go_roundw
    case rel => exact ⟨j + 1, s5, A5, n5, c5, by omega, by go_num, hO', hR', hN, hb'⟩
    case measure => simp [intOf]; omega
  ·obtain rfl : j = n := by omega
   obtain ⟨g0, g1, g2, g3, g4⟩ := box2 hR
   go_wp2
   refine bodyPost_ret (v := .agg #[.bool t, .slice A k c]) (by simp [results, Tryz.results137, go_sem, g0, g1]) rfl ⟨t, A, k, c, rfl, hbig.box2 hR (by decide) _ _, ?_⟩
   go_grown
theorem out_no (n lo hi : Int) (w : World) (h : lo <= n /\ n <= hi) : Calls Tryz.prog 104 #[.int .i64 n, .int .i64 lo, .int .i64 hi] w fun e w' => w = w' /\ e = .returned (.bool false) := by
 have h1 : ¬ n < lo := by omega
 have h2 : ¬ hi < n := by omega
 go_enter Tryz.func104, Tryz.ntmps104
 go_wp2
 go_ret
 exact ⟨rfl, rfl⟩
theorem out_yes (n lo hi : Int) (w : World) (h : ¬ (lo <= n /\ n <= hi)) : Calls Tryz.prog 104 #[.int .i64 n, .int .i64 lo, .int .i64 hi] w fun e w' => w = w' /\ e = .returned (.bool true) := by
 by_cases h1 : n < lo
 ·go_enter Tryz.func104, Tryz.ntmps104
  go_wp2
  go_ret
  exact ⟨rfl, rfl⟩
 ·have h2 : hi < n := by omega
  go_enter Tryz.func104, Tryz.ntmps104
  go_wp2
  go_ret
  exact ⟨rfl, rfl⟩
theorem small_mul9 {u : Int} (hu : -1000000000000000 <= u /\ u <= 1000000000000000) : Small u := small_of_le (by omega) (by omega)
set_option maxHeartbeats 2000000 in
set_option maxRecDepth 100000 in
theorem scaled_c (u p : Int) (q : Nat) (w : World) (h : decB u p = true) (hp : p <= q) (hq : q <= 9) :
  Calls Tryz.prog 87 #[.agg #[.int .i64 u, .int .i64 p], .int .i64 (q : Int)] w (Makes .u32 196 B32 w (scaled u p q)) := by
 have h := decB_out h
 have su : Small u := small_mul9 (by omega)
 have e : IntKind.i64.wrap ((q : Int) - p) = ((q - p.toNat : Nat) : Int) := by rw [IntWalk.i64_in _ (by omega)]; omega
 have HE := Lib.hid e; clear e
 go_enter Tryz.func87, Tryz.ntmps87
 go_wp2_with fail
 have HW := boxes2 w (.int .i64 u) (.int .i64 p) (.bool false) (.slice none 0 0) 106 111
 generalize (w.alloc (.cells #[.int .i64 u, .int .i64 p] 106)).alloc (.cells #[.bool false, .slice none 0 0] 111) = w3 at HW ⊢
 obtain ⟨hB1, hB3, hbel⟩ := HW _ rfl
 clear HW
 have hz3 := hbel.size
 obtain ⟨c10, c11, -, -, z1⟩ := box2 hB1
 obtain ⟨-, -, -, -, z3⟩ := box2 hB3
 go_region_held3 (fun w' => w'.cell? ⟨w.heap.size, 0, none⟩ = some (.int .i64 u) /\ w'.cell? ⟨w.heap.size, 1, none⟩ = some (.int .i64 p))
  (first | (go_keep; done) | (refine ⟨cell_past2 r10 ?_, cell_past2 r11 ?_⟩ <;> omega))
  (first
   | (go_at_call 132; refine (of_c u _ (by omega) (by omega)).mono ?_; rintro e w4 ⟨s4, A4, n4, c4, rfl, hv4, hb4⟩; (have hC1 := heap_below (w := w3.drew) hB1 hb4); (have hC3 := heap_below (w := w3.drew) hB3 hb4); (have hbel4 := below_then hb4 hbel.drew hz3); obtain ⟨r10, r11, -, -, -⟩ := box2 hC1)
   | (go_at_call 137; rw [HE.out]; refine (power_c _ _ (by omega)).mono ?_; rintro e w5 ⟨s5, A5, n5, c5, rfl, hv5, hb5⟩; (have hE1 := heap_below hC1 hb5); (have hE3 := heap_below hC3 hb5); (have hbel5 := below_then hb5 hbel4 hbel4.size); obtain ⟨r10, r11, -, -, -⟩ := box2 hE1)
   | (go_at_call 133; refine (times_c _ (hv4.below hb5) hv5 su (small_pow (by omega))).mono ?_; rintro e w6 ⟨s6, A6, n6, c6, rfl, hv6, hb6⟩; (have hF1 := heap_below hE1 hb6); (have hF3 := heap_below hE3 hb6); (have hbel6 := below_then hb6 hbel5 hbel5.size); obtain ⟨r10, r11, -, -, -⟩ := box2 hF1; obtain ⟨g0, g1, g2, g3, g4⟩ := box2 hF3))
 go_wp2
 refine bodyPost_ret (v := .agg #[.bool s6, .slice A6 n6 c6]) (by simp [results, Tryz.results87, go_sem, g0, g1]) rfl ⟨s6, A6, n6, c6, rfl, hv6.box2 hF3 (by decide) _ _, ?_⟩
 go_grown
theorem value_c (u p : Int) (w : World) (h : decB u p = true) :
  Calls Tryz.prog 55 #[.agg #[.int .i64 u, .int .i64 p]] w (Makes .u32 196 B32 w (scaled u p 9)) := by
 have hp := decB_out h
 go_enter Tryz.func55, Tryz.ntmps55
 go_wp2_with fail
 refine (scaled_c u p 9 _ h (by omega) (by omega)).mono ?_
 rintro e w1 ⟨s1, A1, n1, c1, rfl, hv, hb⟩
 have hB := heap_below (heap_new (w.alloc _) _ rfl) hb
 simp only [World.size_alloc] at hB
 obtain ⟨g0, g1, g2, g3, g4⟩ := box2 hB
 go_wp2
 refine bodyPost_ret (v := .agg #[.bool s1, .slice A1 n1 c1]) (by simp [results, Tryz.results55, go_sem, g0, g1]) rfl ⟨s1, A1, n1, c1, rfl, hv.box2 hB (by decide) _ _, ?_⟩
 go_grown
 exact below_then hb (by go_grown) (by simp only [World.size_alloc]; omega)
theorem made_fit (z p : Int) (h : z.natAbs <= 1000000000000000) : made z p = (z, p, 0) /\ fitV z 1000000000000000 = z /\ fitB z 1000000000000000 = true := by
 unfold made fitV fitB; simp [h]
theorem made_not (z p : Int) (h : ¬ z.natAbs <= 1000000000000000) : made z p = (0, 0, 1) /\ fitV z 1000000000000000 = 0 /\ fitB z 1000000000000000 = false := by
 unfold made fitV fitB; simp [h]
set_option maxHeartbeats 1000000 in
theorem mk_c (w : World) {s : Bool} {A : Option Addr} {n c : Nat} {z : Int} (p : Int) (h : Big .u32 196 B32 w s A n c z) :
  Calls Tryz.prog 136 #[.agg #[.bool s, .slice A n c], .int .i64 p] w (RetD (made z p) w) := by
 by_cases hz : z.natAbs <= 1000000000000000
 ·obtain ⟨e1, e2, e3⟩ := made_fit z p hz
  rw [e1]
  have E2 := Lib.hid e2; have E3 := Lib.hid e3; clear e1 e2 e3
  go_enter Tryz.func136, Tryz.ntmps136
  go_wp2_with fail
  refine (int_c _ 1000000000000000 ((h.alloc _).alloc _) (by omega)).mono ?_
  rintro e w1 ⟨rfl, hb⟩
  rw [E2.out, E3.out]
  have hB := heap_below (heap_new (w.alloc _) _ rfl) hb
  simp only [World.size_alloc] at hB
  obtain ⟨g0, g1, g2, g3, g4⟩ := box2 hB
  go_wp2
  refine bodyPost_ret (v := .tuple #[.agg #[.int .i64 z, .int .i64 p], .int .i64 0]) (by simp [results, Tryz.results136, go_sem, g0, g1]) rfl ⟨rfl, ?_⟩
  go_grown
  exact below_then hb (by go_grown) (by simp only [World.size_alloc]; omega)
 ·obtain ⟨e1, e2, e3⟩ := made_not z p hz
  rw [e1]
  have E2 := Lib.hid e2; have E3 := Lib.hid e3; clear e1 e2 e3
  go_enter Tryz.func136, Tryz.ntmps136
  go_wp2_with fail
  refine (int_c _ 1000000000000000 ((h.alloc _).alloc _) (by omega)).mono ?_
  rintro e w1 ⟨rfl, hb⟩
  rw [E2.out, E3.out]
  have hB := heap_below (heap_new (w.alloc _) _ rfl) hb
  simp only [World.size_alloc] at hB
  obtain ⟨g0, g1, g2, g3, g4⟩ := box2 hB
  go_wp2
  refine bodyPost_ret (v := .tuple #[.agg #[.int .i64 0, .int .i64 0], .int .i64 1]) (by simp [results, Tryz.results136, go_sem, g0, g1]) rfl ⟨rfl, ?_⟩
  go_grown
  exact below_then hb (by go_grown) (by simp only [World.size_alloc]; omega)
end Go.Proofs.YtbnjejenejoibaaGreatDoor
