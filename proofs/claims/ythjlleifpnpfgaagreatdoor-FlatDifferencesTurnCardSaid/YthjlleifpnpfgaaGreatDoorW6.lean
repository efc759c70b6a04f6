
/- The walk of package whole: Times. -/
import Derived.Test.YthjlleifpnpfgaaGreatDoorF6
namespace Go.Proofs.YthjlleifpnpfgaaGreatDoor
open Go.RowKit Limb
theorem row_cell {w : World} {B : Nat} {E : TypeId} {g N c : Nat} {os : List Nat} (h : w.ownsRow B E 1 (.slice (some ⟨g, 0, none⟩) N c) N (digV .u32 os)) {p : Nat} (hp : p < N) : w.cell? ⟨g, p, none⟩ = some (.int .u32 ((dg os p : Nat) : Int)) := by
 have hl := h.1
 rw [digV_length] at hl
 rw [h.cellAt p (by omega)]
 exact digV_get _ (by omega)
theorem row_store {w : World} {B : Nat} {E : TypeId} {g N c : Nat} {os : List Nat} (h : w.ownsRow B E 1 (.slice (some ⟨g, 0, none⟩) N c) N (digV .u32 os)) (p : Nat) {X : Int} {x : Nat} (hx : X = (x : Int)) :
  (w.setCell ⟨g, p, none⟩ (.int .u32 X)).ownsRow B E 1 (.slice (some ⟨g, 0, none⟩) N c) N (digV .u32 (os.set p x)) := by
 subst hx; rw [digV_set]; exact (h.stored p _).1
theorem dg_set_other {l : List Nat} {k j d : Nat} (h : j ≠ k) : dg (l.set k d) j = dg l j := getD_set_other h
theorem made_zeros (n : Nat) : (madeCells #[Value.int .u32 0] n).toList = digV .u32 (List.replicate n 0) := by
 rw [toList_madeCells_one]; simp [digV]
theorem sg_mul {s t : Bool} {a b : Nat} : sg (!s == t) (a * b) = sg s a * sg t b := by cases s <;> cases t <;> simp [sg, Int.neg_mul, Int.mul_neg]
theorem mulw {cy o x y : Nat} (h1 : cy < 4294967296) (h2 : o < 4294967296) (h3 : x < 4294967296) (h4 : y < 4294967296) :
  IntKind.u64.wrap ((cy : Int) + IntKind.u64.wrap ((o : Int) + IntKind.u64.wrap ((x : Int) * (y : Int)))) = ((cy + o + x * y : Nat) : Int) := by
 have h5 : x * y <= 4294967295 * 4294967295 := Nat.mul_le_mul (by omega) (by omega)
 rw [<- Int.natCast_mul]
 generalize x * y = p at *
 rw [u64w, u64w, u64w]
 omega
theorem times_rel {l m ps : List Nat} {j q cy : Nat} (hlt : j + q < ps.length) (hval : val B32 ps + B32 ^ (j + q) * cy = val B32 (l.take j) * val B32 m + B32 ^ j * (dg l j * val B32 (m.take q))) (gs : Digs B32 ps)
  (h1 : cy < 4294967296) (h3 : dg l j < 4294967296) (h4 : dg m q < 4294967296) :
  let t := cy + dg ps (j + q) + dg l j * dg m q
  t / B32 < 4294967296 /\ Digs B32 (ps.set (j + q) (t % B32)) /\ val B32 (ps.set (j + q) (t % B32)) + B32 ^ (j + (q + 1)) * (t / B32) = val B32 (l.take j) * val B32 m + B32 ^ j * (dg l j * val B32 (m.take (q + 1))) := by
 intro t
 have h2 : dg ps (j + q) < 4294967296 := dg_lt gs (by decide) _
 refine ⟨mul_carry h1 h2 h3 h4, gs.set _ (Nat.mod_lt _ (by decide)), ?_⟩
 have h := mul_step (b := B32) (m := dg l j * dg m q) hlt hval
 have e1 : j + (q + 1) = j + q + 1 := by omega
 rw [e1]
 refine Eq.trans h ?_
 rw [val_take_succ, Nat.mul_add, Nat.mul_add, Nat.pow_add]
 have e2 : B32 ^ j * B32 ^ q * (dg l j * dg m q) = B32 ^ j * (dg l j * (B32 ^ q * m.getD q 0)) := by
  show _ = B32 ^ j * (dg l j * (B32 ^ q * dg m q))
  rw [Nat.mul_assoc, Nat.mul_left_comm (B32 ^ q)]
 rw [e2, Nat.add_assoc]
theorem times_last {l m ps : List Nat} {j k cy : Nat} (hlt : j + k < ps.length) (hk : m.length = k) (hz : dg ps (j + k) = 0) (hval : val B32 ps + B32 ^ (j + k) * cy = val B32 (l.take j) * val B32 m + B32 ^ j * (dg l j * val B32 (m.take k))) :
  val B32 (ps.set (j + k) cy) = val B32 (l.take (j + 1)) * val B32 m := by
 have h := val_set B32 ps (j + k) cy hlt
 have hz' : ps.getD (j + k) 0 = 0 := hz
 rw [hz', Nat.mul_zero, Nat.add_zero, hval, show m.take k = m from List.take_of_length_le (by omega)] at h
 rw [h, val_take_succ, Nat.add_mul, Nat.mul_assoc]
 rfl
set_option maxHeartbeats 4000000 in
set_option maxRecDepth 100000 in
theorem times_c (w : World) {s t : Bool} {A B : Option Addr} {n c k d : Nat} {x y : Int} (ha : Big .u32 189 B32 w s A n c x) (hb : Big .u32 189 B32 w t B k d y) (sx : Small x) (sy : Small y) :
  Calls Tryz.prog 156 #[.agg #[.bool s, .slice A n c], .agg #[.bool t, .slice B k d]] w (Makes .u32 189 B32 w (x * y)) := by
 obtain ⟨l, hd, hnc, hcm, gl, nl, sl, hx⟩ := ha
 obtain ⟨m, he, hkd, hdm, gm, nm, sm, hy⟩ := hb
 have hn : n <= 1000 := by rw [<- hd.1]; rw [hx] at sx; have := small_len32 nl sx; omega
 have hk : k <= 1000 := by rw [<- he.1]; rw [hy] at sy; have := small_len32 nm sy; omega
 have HX := Lib.hid hx; have HY := Lib.hid hy; clear hx hy
 have HL := Lib.hid hd.1; have HM := Lib.hid he.1
 clear sx sy
 obtain ⟨i0, hi, hz0, hz1, hz2⟩ := info_parts Tryz.info189
 go_enter Tryz.func156, Tryz.ntmps156
 go_wp2_with (first
  | (at_make
     refine wpList_make_full _ rfl _ _ 121 rfl (w.heap.size + 1 + 1 + 1) 189 i0 (.int .u32 0) 1 Tryz.underlying121 hi hz0 hz1 .i64 .i64 _ _ (n + k) rfl rfl (by omega) (by omega) (by rw [hz2]; omega) (by unfold maxLen; omega) (by simp) ?_
     intro w4 hown1 hg1
     obtain ⟨hB1, hB2, hB3, hbel⟩ := boxes3 w (.bool s) (.slice A n c) (.bool t) (.slice B k d) (.bool false) (.slice none 0 0) 123 123 123 _ rfl
     have hb4 := (Below.refl _ _).grown hg1 (Nat.le_refl _) (fun _ h => by cases h)
     have hbw := below_then hb4 hbel hbel.size
     have hD1 := heap_below hB1 hb4
     have hD2 := heap_below hB2 hb4
     have hD3 := heap_below hB3 hb4
     clear hB1 hB2 hB3
     clear hb4
     simp only [World.size_alloc] at hown1
     clear hg1 hbel
     obtain ⟨c10, c11, -, -, z1⟩ := box2 hD1
     obtain ⟨c20, c21, -, -, z2⟩ := box2 hD2
     obtain ⟨-, -, -, -, z3⟩ := box2 hD3))
 rw [show (madeCells (Value.int .u32 0).cells ((n + k) * 1)).toList = digV .u32 (List.replicate (n + k) 0) by rw [Nat.mul_one]; exact made_zeros _] at hown1
 go_loopw [22] (fun i wr => ∃ (j : Nat) (os : List Nat), j <= n /\ i = .int .i64 j /\ wr.ownsRow (w.heap.size + 1 + 1 + 1) 189 1 (.slice (some ⟨w.heap.size + 1 + 1 + 1, 0, none⟩) (n + k) (n + k)) (n + k) (digV .u32 os) /\ Digs B32 os /\ (∀ p, j + k <= p -> dg os p = 0) /\
   val B32 os = val B32 (l.take j) * val B32 m /\ Below (w.heap.size + 1 + 1 + 1) w4 wr) (fun i _ => n - (intOf i).toNat)
 case atStart => exact ⟨0, List.replicate (n + k) 0, Nat.zero_le _, rfl, hown1, digs_zeros (by decide) _, fun p _ => by simp [dg, List.getD_eq_getElem?_getD, List.getElem?_replicate]; split <;> rfl, by rw [val_zeros]; simp [val], Below.refl _ _⟩
 case round =>
  obtain ⟨j, os, hj, rfl, hown, gos, hzer, hval, hbel⟩ := hrel
  have HV := Lib.hid hval; have HZ := Lib.hid hzer; clear hval hzer
  have e10 := (hbel.cell (p := ⟨w.heap.size, 0, none⟩) (by simp; omega)).trans c10
  have e20 := (hbel.cell (p := ⟨w.heap.size + 1, 0, none⟩) (by simp)).trans c20
  have e21 := (hbel.cell (p := ⟨w.heap.size + 1, 1, none⟩) (by simp)).trans c21
  rcases Nat.lt_or_ge j n with hjn | hjn
  ·obtain ⟨g, rfl, hg, hc1⟩ := hd.at_ (by omega)
   have hx := ((hbel.cell (p := ⟨g, j, none⟩) (by simp; omega)).trans (hbw.cell (p := ⟨g, j, none⟩) hg)).trans (hc1 j hjn)
   have b1 : dg l j < 4294967296 := dg_lt gl (by decide) j
   clear hc1
   go_wp2
   obtain ⟨wo, rfl⟩ : ∃ wo : World, wo = wr := ⟨_, rfl⟩
   go_loopw [8, 30] (fun cv i wr => ∃ (q cy : Nat) (ps : List Nat), q <= k /\ cv = .int .u64 cy /\ i = .int .i64 q /\ cy < 4294967296 /\ wr.ownsRow (w.heap.size + 1 + 1 + 1) 189 1 (.slice (some ⟨w.heap.size + 1 + 1 + 1, 0, none⟩) (n + k) (n + k)) (n + k) (digV .u32 ps) /\ Digs B32 ps /\ (∀ p, j + k <= p -> dg ps p = 0) /\
     val B32 ps + B32 ^ (j + q) * cy = val B32 (l.take j) * val B32 m + B32 ^ j * (dg l j * val B32 (m.take q)) /\ Below (w.heap.size + 1 + 1 + 1) w4 wr) (fun _ i _ => k - (intOf i).toNat)
   case atStart => exact ⟨0, 0, os, Nat.zero_le _, rfl, rfl, by omega, hown, gos, HZ.out, by rw [HV.out]; simp [val], hbel⟩
   case round =>
    obtain ⟨q, cy, ps, hq, rfl, rfl, hcy, hown, gos, hzer, hval, hbel⟩ := hrel
    have HV := Lib.hid hval; have HZ := Lib.hid hzer; clear hval hzer
    rcases Nat.lt_or_ge q k with hqk | hqk
    ·obtain ⟨g', rfl, hg', hc1⟩ := he.at_ (by omega)
     have hy := ((hbel.cell (p := ⟨g', q, none⟩) (by simp; omega)).trans (hbw.cell (p := ⟨g', q, none⟩) hg')).trans (hc1 q hqk)
     have b2 : dg m q < 4294967296 := dg_lt gm (by decide) q
     have b3 : dg ps (j + q) < 4294967296 := dg_lt gos (by decide) _
     have hz := row_cell hown (p := j + q) (by omega)
     have hf := hown.frozenAt (j + q)
     clear hc1
     go_wp2
     go_roundw
     case rel =>
      obtain ⟨r1, r2, r3⟩ := times_rel (by have := hown.1; rw [digV_length] at this; omega) HV.out gos hcy b1 b2
      refine ⟨q + 1, _, _, by omega, congrArg _ (by rw [mulw hcy b3 b1 b2]; unfold B32; omega), by go_num, r1, row_store hown (j + q) (by rw [mulw hcy b3 b1 b2]; unfold B32; omega), r2, fun p hp => ?_, r3, hbel.setCell (by simp) _⟩
      rw [dg_set_other (by omega)]
      exact HZ.out p hp
     case measure => simp [intOf]; omega
    ·obtain rfl : q = k := by omega
     have hz := row_cell hown (p := j + q) (by omega)
     have hf := hown.frozenAt (j + q)
     have hz3 := HZ.out (j + q) (Nat.le_refl _)
     rw [hz3] at hz
     have HZ3 := Lib.hid hz3; clear hz3
     have e21 := (hbel.cell (p := ⟨w.heap.size + 1, 1, none⟩) (by simp)).trans c21
     go_wp2
     go_roundw
     case rel =>
      refine ⟨j + 1, ps.set (j + q) cy, by omega, by go_num, row_store hown (j + q) rfl, gos.set _ (by unfold B32; omega), fun p hp => ?_, times_last (by have := hown.1; rw [digV_length] at this; omega) HM.out HZ3.out HV.out, hbel.setCell (by simp) _⟩
      rw [dg_set_other (by omega)]
      exact HZ.out p (by omega)
     case measure => simp [intOf]; omega
  ·obtain rfl : j = n := by omega
   have e11 := (hbel.cell (p := ⟨w.heap.size, 1, none⟩) (by simp; omega)).trans c11
   go_wp2_with fail
   refine (made_c os (!s == t) _ (j + k) (j + k) _ (Dig.of_own hown) (own_cap hown).1 (own_cap hown).2 gos).mono ?_
   rintro e w5 ⟨s5, A5, n5, c5, rfl, hv5, hb5⟩
   have hB5 := heap_below ((hbel.block (w.heap.size + 1 + 1) (by omega)).trans hD3) hb5
   obtain ⟨g0, g1, g2, g3, g4⟩ := box2 hB5
   go_wp2
   refine bodyPost_ret (v := .agg #[.bool s5, .slice A5 n5 c5]) (by simp [results, Tryz.results156, go_sem, g0, g1]) rfl ⟨s5, A5, n5, c5, rfl, ?_, ?_⟩
   ·have e : sg (!s == t) (val B32 os) = x * y := by
     rw [HX.out, HY.out, HV.out, show l.take j = l from List.take_of_length_le (by rw [HL.out]; exact Nat.le_refl _)]
     exact sg_mul
    rw [e] at hv5
    exact hv5.box2 hB5 (by decide) _ _
   ·go_grown
    exact below_then hb5 ((hbw).trans (hbel.mono (by omega))) (by have := hbel.size; have := hbw.size; omega)
end Go.Proofs.YthjlleifpnpfgaaGreatDoor
