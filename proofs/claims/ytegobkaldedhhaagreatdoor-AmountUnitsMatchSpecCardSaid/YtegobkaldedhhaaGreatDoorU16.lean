
/- The walk of the reference: toBase. -/
import Derived.Test.YtegobkaldedhhaaGreatDoorU15
import Derived.Test.YtegobkaldedhhaaGreatDoorR7
namespace Go.Proofs.YtegobkaldedhhaaGreatDoor
open Go.RowKit Limb
set_option linter.unusedVariables false
set_option linter.unusedSimpArgs false

theorem prod_small {f : Nat → Nat} {l : List Nat} {j : Nat} (h : ∀ x ∈ l, f x ≤ 1000000) (hl : l.length ≤ 5) : prodN ((l.take j).map f) ≤ 1000000 ^ 5 := by
  refine Nat.le_trans (prodN_le fun x hx => ?_) (Nat.pow_le_pow_right (by decide) ?_)
  · obtain ⟨y, hy, rfl⟩ := List.mem_map.1 hx
    exact h y (List.mem_of_mem_take hy)
  · rw [List.length_map, List.length_take]; omega
theorem prod_map_step {f : Nat → Nat} {l : List Nat} {j v : Nat} (hj : j < l.length) (hv : dg l j = v) : prodN ((l.take (j + 1)).map f) = prodN ((l.take j).map f) * f v := by
  rw [take_map hj hv, prodN_append, prodN_cons, prodN_nil, Nat.mul_one]
theorem small_prod {n : Nat} (h : n ≤ 1000000 ^ 5) : Small ((n : Nat) : Int) := by
  unfold Small
  have h4 : (1000000 : Nat) ^ 5 < 10 ^ 200 := by decide
  omega

set_option maxHeartbeats 16000000 in
set_option maxRecDepth 100000 in
theorem tobase_c (us : List Unt) (x : ByteArray) (A : Option Addr) (n c i : Nat) (w : World) (hU : Uns w A n us) (hn : n ≤ 9223372036854775807) (h0 : chkU us = 0) (hx : idxU us x.data.toList = some i) :
    Calls Tryz.prog 77 #[.slice A n c, .string x] w (Makes2 .i64 3 B6 w ((prodN ((chL us i).map (xU us)) : Nat) : Int) ((prodN ((chL us i).map (yU us)) : Nat) : Int)) := by
  have HL := Lib.hid hU.1
  have HU := Lib.hid hU; clear hU
  obtain ⟨hlen, hF, hKn, hC⟩ := chkU_ok h0
  have H0 := Lib.hid h0
  have hsm : n ≤ 200 := by rw [HL.out] at hlen; exact hlen
  have HK := Lib.hid (show ∀ j, j < n → knownU us j = true by rw [← HL.out]; exact hKn)
  have hin : i < n := by rw [← HL.out]; exact (idxU_some hx).1
  have HXI := Lib.hid (ixU_found hx)
  obtain ⟨ca, la5, lan⟩ := chL_ok h0 (i := i) (by rw [HL.out]; exact hin)
  obtain ⟨LA, hLA⟩ : ∃ LA, chL us i = LA := ⟨_, rfl⟩
  rw [hLA] at ca la5 lan ⊢
  have CA := Lib.hid ca; have LAN := Lib.hid lan
  have HBX := Lib.hid (show ∀ v ∈ LA, xU us v ≤ 1000000 ∧ yU us v ≤ 1000000 from fun v hv => ⟨(fac_bounds h0 (lan v hv)).1.2, (fac_bounds h0 (lan v hv)).2.1.2⟩)
  clear hlen hF hKn hC h0 hx ca lan hLA
  go_enter Tryz.func77, Tryz.ntmps77
  go_wp2_with fail
  refine (of_r 1 _ (by omega)).mono ?_
  rintro e w1 ⟨s1, A1, n1, c1, rfl, hv1, hb1⟩
  have hP1 := heap_below (heap_old (heap_new w (.cells #[.bool false, .slice none 0 0] 61) rfl) (.cells #[.bool false, .slice none 0 0] 61)) hb1
  have hQ1 := heap_below (heap_new (w.alloc (.cells #[.bool false, .slice none 0 0] 61)) (.cells #[.bool false, .slice none 0 0] 61) rfl) hb1
  simp only [World.size_alloc] at hQ1
  have hB1 := below_then hb1 (w := w) (B := w.heap.size) (by go_grown) (by simp only [World.size_alloc]; omega)
  clear hb1
  go_wp2_with fail
  refine (of_r 1 _ (by omega)).mono ?_
  rintro e w2 ⟨s2, A2, n2, c2, rfl, hv2, hb2⟩
  have hP2 := heap_below hP1 hb2
  have hQ2 := heap_below hQ1 hb2
  have hB2 := below_then hb2 hB1 hB1.size
  have hv12 := hv1.below hb2
  clear hb2 hB1 hP1 hQ1 hv1
  obtain ⟨p0, p1, p2, p3, p4⟩ := box2 hP2
  obtain ⟨q0, q1, q2, q3, q4⟩ := box2 hQ2
  go_upto_region 2 with fail
  obtain ⟨k1, kk2, kk3, k4, k5, k6⟩ := two_sets (w := w) (.bool s1) (.slice A1 n1 c1) (.bool s2) (.slice A2 n2 c2) hP2 hQ2 _ rfl
  have hU3 := k4 _ _ _ _ _ hv12
  have hW3 := k4 _ _ _ _ _ hv2
  have hB3 := k6 _ (by omega) hB2
  generalize (((w2.setCell ⟨w.heap.size, 0, none⟩ (.bool s1)).setCell ⟨w.heap.size, 1, none⟩ (.slice A1 n1 c1)).setCell ⟨w.heap.size + 1, 0, none⟩ (.bool s2)).setCell ⟨w.heap.size + 1, 1, none⟩ (.slice A2 n2 c2) = w3 at k1 kk2 hU3 hW3 hB3 ⊢
  clear kk3 k4 k5 k6 hv12 hv2 hB2 hP2 hQ2 p0 p1 p2 p3 p4 q0 q1 q2 q3 q4
  go_wp2_with fail
  refine (unitof_c us x A n c _ (HU.out.below hB3) hsm).mono ?_
  rintro e w4 ⟨rfl, hb4⟩
  rw [HXI.out]
  have hB4 := below_then hb4 hB3 hB3.size
  have hP4 := heap_below k1 hb4
  have hQ4 := heap_below kk2 hb4
  have hU4 := hU3.below hb4
  have hW4 := hW3.below hb4
  clear hb4 hB3 k1 kk2 hU3 hW3
  go_wp2_with fail
  refine (chain_c us A n c i _ (HU.out.below hB4) hsm HK.out hin).mono ?_
  rintro e w5 ⟨hb5, ⟨hca, rfl⟩ | ⟨la, Aa, da, hca, hla0, hla1, rfl, hda⟩⟩
  · rw [CA.out] at hca; cases hca
  rw [CA.out] at hca
  injection hca with hca
  subst hca
  have hB5 := below_then hb5 hB4 hB4.size
  have hP5 := heap_below hP4 hb5
  have hQ5 := heap_below hQ4 hb5
  have hU5 := hU4.below hb5
  have hW5 := hW4.below hb5
  clear hb5 hB4 hP4 hQ4 hU4 hW4 CA hla1
  obtain ⟨m, hm⟩ : ∃ m, LA.length = m := ⟨_, rfl⟩
  rw [hm] at hda la5 hla0 ⊢
  have HM := Lib.hid hm
  clear hm
  go_wp2
  go_loopw [22] (fun v22 wr => ∃ (j : Nat) (s0 : Bool) (A0 : Option Addr) (n0 c0 : Nat) (s1 : Bool) (A1 : Option Addr) (n1 c1 : Nat), j ≤ m ∧ v22 = .int .i64 (j : Int) ∧ wr.heap[w.heap.size]? = some (.cells #[.bool s0, .slice A0 n0 c0] 61 (0, 0)) ∧ wr.heap[w.heap.size + 1]? = some (.cells #[.bool s1, .slice A1 n1 c1] 61 (0, 0)) ∧
      Big .i64 3 B6 wr s0 A0 n0 c0 ((prodN ((LA.take j).map (xU us)) : Nat) : Int) ∧ Big .i64 3 B6 wr s1 A1 n1 c1 ((prodN ((LA.take j).map (yU us)) : Nat) : Int) ∧ Dig wr .i64 3 Aa m LA ∧ Below w.heap.size w wr) (fun v22 _ => m - (intOf v22).toNat)
  case atStart => exact ⟨0, s1, A1, n1, c1, s2, A2, n2, c2, Nat.zero_le _, rfl, hP5, hQ5, hU5, hW5, hda, hB5⟩
  case round =>
    clear hP5 hQ5 hU5 hW5 hda hB5
    obtain ⟨j, s0, A0, n0, c0, s1, A1, n1, c1, hj, rfl, hP, hQ, hUb, hWb, hda, hbel⟩ := hrel
    have hzr := hbel.size
    obtain ⟨p0, p1, p2, p3, p4⟩ := box2 hP
    obtain ⟨q0, q1, q2, q3, q4⟩ := box2 hQ
    rcases Nat.lt_or_ge j m with hjn | hjn
    · have hjl : j < LA.length := by rw [HM.out]; exact hjn
      obtain ⟨gl, e', hgl, hcell⟩ := hda.at_ (by omega)
      subst e'
      have hxj := hcell j hjn
      have hvm : dg LA j ∈ LA := by
        have h2 := dg_get hjl
        rw [List.getElem?_eq_getElem hjl] at h2
        injection h2 with h2
        rw [← h2]
        exact List.getElem_mem hjl
      have hst1 := prod_map_step (f := xU us) hjl rfl
      have hst2 := prod_map_step (f := yU us) hjl rfl
      have hps1 := small_prod (prod_small (j := j) (fun x hx => (HBX.out x hx).1) (by rw [HM.out]; exact la5))
      have hps2 := small_prod (prod_small (j := j) (fun x hx => (HBX.out x hx).2) (by rw [HM.out]; exact la5))
      have hv : dg LA j < n := by rw [← HL.out]; exact LAN.out _ hvm
      obtain ⟨v, hvv⟩ : ∃ v, dg LA j = v := ⟨_, rfl⟩
      rw [hvv] at hxj hv hst1 hst2
      obtain ⟨fb1, fb2, fb3, fb4⟩ := fac_bounds H0.out (i := v) (by rw [HL.out]; exact hv)
      obtain ⟨b, off, rfl, hbl, -, -, u2, u3⟩ := HU.out.at_ hv
      rw [← fb3] at u2
      rw [← fb4] at u3
      obtain ⟨X, hX⟩ : ∃ X, xU us v = X := ⟨_, rfl⟩
      obtain ⟨Y, hY⟩ : ∃ Y, yU us v = Y := ⟨_, rfl⟩
      rw [hX] at u2 fb1 hst1
      rw [hY] at u3 fb2 hst2
      obtain ⟨x1, x2⟩ := fb1
      obtain ⟨y1, y2⟩ := fb2
      obtain ⟨U, hUU⟩ : ∃ U, prodN ((LA.take j).map (xU us)) = U := ⟨_, rfl⟩
      obtain ⟨V, hVV⟩ : ∃ V, prodN ((LA.take j).map (yU us)) = V := ⟨_, rfl⟩
      rw [hUU] at hUb hst1 hps1
      rw [hVV] at hWb hst2 hps2
      have HST1 := Lib.hid hst1; have HST2 := Lib.hid hst2
      have k2 := (hbel.cell (p := ⟨b, off + v * 4 + 2, none⟩) hbl).trans u2
      have k3 := (hbel.cell (p := ⟨b, off + v * 4 + 3, none⟩) hbl).trans u3
      have hbr : b < wr.heap.size := Nat.lt_of_lt_of_le hbl hzr
      have sU := Lib.hid hps1; have sV := Lib.hid hps2
      have sX : Small ((X : Nat) : Int) := small_of_le (by omega) (by omega)
      have sY : Small ((Y : Nat) : Int) := small_of_le (by omega) (by omega)
      have HP0 := Lib.hid hP; have HQ0 := Lib.hid hQ; have HU0 := Lib.hid hUb; have HW0 := Lib.hid hWb; have HDA := Lib.hid hda; have HBL := Lib.hid hbel
      clear hcell hvv hX hY hUU hVV fb3 fb4 hst1 hst2 hps1 hps2 hP hQ hUb hWb hda hbel hvm hjl u2 u3
      go_wp2_with fail
      refine region_till 16 (fun w' => w'.cell? ⟨w.heap.size, 0, none⟩ = some (.bool s0) ∧ w'.cell? ⟨w.heap.size, 1, none⟩ = some (.slice A0 n0 c0) ∧ w'.cell? ⟨w.heap.size + 1, 0, none⟩ = some (.bool s1) ∧ w'.cell? ⟨w.heap.size + 1, 1, none⟩ = some (.slice A1 n1 c1) ∧ w'.cell? ⟨b, off + v * 4 + 2, none⟩ = some (.int .i64 (X : Int)) ∧ w'.cell? ⟨b, off + v * 4 + 3, none⟩ = some (.int .i64 (Y : Int))) (by kernel_rfl) ?_
      have hT : (fun w' : World => w'.cell? ⟨w.heap.size, 0, none⟩ = some (.bool s0) ∧ w'.cell? ⟨w.heap.size, 1, none⟩ = some (.slice A0 n0 c0) ∧ w'.cell? ⟨w.heap.size + 1, 0, none⟩ = some (.bool s1) ∧ w'.cell? ⟨w.heap.size + 1, 1, none⟩ = some (.slice A1 n1 c1) ∧ w'.cell? ⟨b, off + v * 4 + 2, none⟩ = some (.int .i64 (X : Int)) ∧ w'.cell? ⟨b, off + v * 4 + 3, none⟩ = some (.int .i64 (Y : Int))) wr.drew := ⟨p0, p1, q0, q1, k2, k3⟩
      refine Till.take (i := 0) (v := ?_) rfl (by kernel_rfl) (by kernel_rfl) (by kernel_rfl) [7, 14, 15] (by kernel_rfl) (by decide) (by kernel_rfl) (by kernel_rfl) (fun _ _ _ h => h) hT (Or.inl ⟨by rfl, ?_⟩) ?_
      rotate_left
      · (intro w' hw'; obtain ⟨u1, u2, u3, u4, u5, u6⟩ := hw'; go_simp; try with_reducible rfl)
      (try simp only [Act.put, List.setIfInBounds_toArray, List.set_cons_zero, List.set_cons_succ])
      refine Till.take (i := 1) (v := ?_) rfl (by kernel_rfl) (by kernel_rfl) (by kernel_rfl) [3, 4, 5, 6, 7, 14, 15] (by kernel_rfl) (by decide) (by kernel_rfl) (by kernel_rfl) (fun _ _ _ h => h) hT (Or.inl ⟨by rfl, ?_⟩) ?_
      rotate_left
      · (intro w' hw'; obtain ⟨u1, u2, u3, u4, u5, u6⟩ := hw'; go_simp; try with_reducible rfl)
      (try simp only [Act.put, List.setIfInBounds_toArray, List.set_cons_zero, List.set_cons_succ])
      refine Till.take (i := 2) (v := ?_) rfl (by kernel_rfl) (by kernel_rfl) (by kernel_rfl) [3, 4, 5, 6, 7, 14, 15] (by kernel_rfl) (by decide) (by kernel_rfl) (by kernel_rfl) (fun _ _ _ h => h) hT (Or.inl ⟨by rfl, ?_⟩) ?_
      rotate_left
      · (intro w' hw'; obtain ⟨u1, u2, u3, u4, u5, u6⟩ := hw'; go_simp; try with_reducible rfl)
      (try simp only [Act.put, List.setIfInBounds_toArray, List.set_cons_zero, List.set_cons_succ])
      refine Till.take (i := 3) (v := ?_) rfl (by kernel_rfl) (by kernel_rfl) (by kernel_rfl) [4, 5, 6, 7, 14, 15] (by kernel_rfl) (by decide) (by kernel_rfl) (by kernel_rfl) (fun _ _ _ h => h) hT (Or.inl ⟨by rfl, ?_⟩) ?_
      rotate_left
      · (intro w' hw'; obtain ⟨u1, u2, u3, u4, u5, u6⟩ := hw'; go_simp; try with_reducible rfl)
      (try simp only [Act.put, List.setIfInBounds_toArray, List.set_cons_zero, List.set_cons_succ])
      refine Till.take (i := 4) (v := ?_) rfl (by kernel_rfl) (by kernel_rfl) (by kernel_rfl) [5, 6, 7, 14, 15] (by kernel_rfl) (by decide) (by kernel_rfl) (by kernel_rfl) (fun _ _ _ h => h) hT (Or.inl ⟨by rfl, ?_⟩) ?_
      rotate_left
      · (intro w' hw'; obtain ⟨u1, u2, u3, u4, u5, u6⟩ := hw'; go_simp; try with_reducible rfl)
      (try simp only [Act.put, List.setIfInBounds_toArray, List.set_cons_zero, List.set_cons_succ])
      refine Till.take (i := 5) (v := ?_) rfl (by kernel_rfl) (by kernel_rfl) (by kernel_rfl) [6, 7, 14, 15] (by kernel_rfl) (by decide) (by kernel_rfl) (by kernel_rfl) (fun _ _ _ h => h) hT (Or.inl ⟨by rfl, ?_⟩) ?_
      rotate_left
      · (intro w' hw'; obtain ⟨u1, u2, u3, u4, u5, u6⟩ := hw'; go_simp; try with_reducible rfl)
      (try simp only [Act.put, List.setIfInBounds_toArray, List.set_cons_zero, List.set_cons_succ])
      refine Till.take (i := 8) (v := ?_) rfl (by kernel_rfl) (by kernel_rfl) (by kernel_rfl) [15] (by kernel_rfl) (by decide) (by kernel_rfl) (by kernel_rfl) (fun _ _ _ h => h) hT (Or.inl ⟨by rfl, ?_⟩) ?_
      rotate_left
      · (intro w' hw'; obtain ⟨u1, u2, u3, u4, u5, u6⟩ := hw'; go_simp; try with_reducible rfl)
      (try simp only [Act.put, List.setIfInBounds_toArray, List.set_cons_zero, List.set_cons_succ])
      refine Till.take (i := 9) (v := ?_) rfl (by kernel_rfl) (by kernel_rfl) (by kernel_rfl) [11, 12, 13, 14, 15] (by kernel_rfl) (by decide) (by kernel_rfl) (by kernel_rfl) (fun _ _ _ h => h) hT (Or.inl ⟨by rfl, ?_⟩) ?_
      rotate_left
      · (intro w' hw'; obtain ⟨u1, u2, u3, u4, u5, u6⟩ := hw'; go_simp; try with_reducible rfl)
      (try simp only [Act.put, List.setIfInBounds_toArray, List.set_cons_zero, List.set_cons_succ])
      refine Till.take (i := 10) (v := ?_) rfl (by kernel_rfl) (by kernel_rfl) (by kernel_rfl) [11, 12, 13, 14, 15] (by kernel_rfl) (by decide) (by kernel_rfl) (by kernel_rfl) (fun _ _ _ h => h) hT (Or.inl ⟨by rfl, ?_⟩) ?_
      rotate_left
      · (intro w' hw'; obtain ⟨u1, u2, u3, u4, u5, u6⟩ := hw'; go_simp; try with_reducible rfl)
      (try simp only [Act.put, List.setIfInBounds_toArray, List.set_cons_zero, List.set_cons_succ])
      refine Till.take (i := 11) (v := ?_) rfl (by kernel_rfl) (by kernel_rfl) (by kernel_rfl) [12, 13, 14, 15] (by kernel_rfl) (by decide) (by kernel_rfl) (by kernel_rfl) (fun _ _ _ h => h) hT (Or.inl ⟨by rfl, ?_⟩) ?_
      rotate_left
      · (intro w' hw'; obtain ⟨u1, u2, u3, u4, u5, u6⟩ := hw'; go_simp; try with_reducible rfl)
      (try simp only [Act.put, List.setIfInBounds_toArray, List.set_cons_zero, List.set_cons_succ])
      refine Till.take (i := 12) (v := ?_) rfl (by kernel_rfl) (by kernel_rfl) (by kernel_rfl) [13, 14, 15] (by kernel_rfl) (by decide) (by kernel_rfl) (by kernel_rfl) (fun _ _ _ h => h) hT (Or.inl ⟨by rfl, ?_⟩) ?_
      rotate_left
      · (intro w' hw'; obtain ⟨u1, u2, u3, u4, u5, u6⟩ := hw'; go_simp; try with_reducible rfl)
      (try simp only [Act.put, List.setIfInBounds_toArray, List.set_cons_zero, List.set_cons_succ])
      refine Till.take (i := 13) (v := ?_) rfl (by kernel_rfl) (by kernel_rfl) (by kernel_rfl) [14, 15] (by kernel_rfl) (by decide) (by kernel_rfl) (by kernel_rfl) (fun _ _ _ h => h) hT (Or.inl ⟨by rfl, ?_⟩) ?_
      rotate_left
      · (intro w' hw'; obtain ⟨u1, u2, u3, u4, u5, u6⟩ := hw'; go_simp; try with_reducible rfl)
      (try simp only [Act.put, List.setIfInBounds_toArray, List.set_cons_zero, List.set_cons_succ])
      refine Till.step (i := 6) (by kernel_rfl) rfl ?_
      intro K hK
      go_simp
      (go_at_call 51; refine (of_r (X : Int) _ (by omega)).mono ?_; rintro e w4 ⟨s4, A4, n4, c4, rfl, hv4, hb4⟩; (have hP4 := Lib.hid (heap_below (w := wr.drew) HP0.out hb4)); (have hQ4 := Lib.hid (heap_below (w := wr.drew) HQ0.out hb4)); (have y24 := (hb4.cell (p := ⟨b, off + v * 4 + 2, none⟩) (by exact hbr)).trans k2); (have y34 := (hb4.cell (p := ⟨b, off + v * 4 + 3, none⟩) (by exact hbr)).trans k3); (have HB4 := Lib.hid hb4); (have HV4 := Lib.hid hv4); (have lt4 : b < w4.heap.size := Nat.lt_of_lt_of_le (by exact hbr) hb4.size); obtain ⟨p40, p41, p42, p43, -⟩ := box2 hP4.out; obtain ⟨q40, q41, q42, q43, -⟩ := box2 hQ4.out; clear hb4 hv4)
      have hT : (fun w' : World => w'.cell? ⟨w.heap.size, 0, none⟩ = some (.bool s0) ∧ w'.cell? ⟨w.heap.size, 1, none⟩ = some (.slice A0 n0 c0) ∧ w'.cell? ⟨w.heap.size + 1, 0, none⟩ = some (.bool s1) ∧ w'.cell? ⟨w.heap.size + 1, 1, none⟩ = some (.slice A1 n1 c1) ∧ w'.cell? ⟨b, off + v * 4 + 2, none⟩ = some (.int .i64 (X : Int)) ∧ w'.cell? ⟨b, off + v * 4 + 3, none⟩ = some (.int .i64 (Y : Int))) w4 := ⟨(box2 hP4.out).1, (box2 hP4.out).2.1, (box2 hQ4.out).1, (box2 hQ4.out).2.1, y24, y34⟩
      refine hK.out _ _ (fun _ => hT) ?_
      clear hK K
      (try simp only [Act.put, List.setIfInBounds_toArray, List.set_cons_zero, List.set_cons_succ])
      refine Till.step (i := 7) (by kernel_rfl) rfl ?_
      intro K hK
      go_simp
      (go_at_call 50; refine (timesof_r _ (x := ((U : Nat) : Int)) (y := ((X : Nat) : Int)) (by exact Big.below (w := wr.drew) HU0.out HB4.out) (by exact HV4.out) sU sX).mono ?_; rintro e w5 ⟨s5, A5, n5, c5, rfl, hv5, hb5⟩; (have hP5 := Lib.hid (heap_below hP4.out hb5)); (have hQ5 := Lib.hid (heap_below hQ4.out hb5)); (have y25 := (hb5.cell (p := ⟨b, off + v * 4 + 2, none⟩) lt4).trans y24); (have y35 := (hb5.cell (p := ⟨b, off + v * 4 + 3, none⟩) lt4).trans y34); (have HB5 := Lib.hid hb5); (have HV5 := Lib.hid hv5); (have lt5 : b < w5.heap.size := Nat.lt_of_lt_of_le lt4 hb5.size); obtain ⟨p50, p51, p52, p53, -⟩ := box2 hP5.out; obtain ⟨q50, q51, q52, q53, -⟩ := box2 hQ5.out; clear hb5 hv5)
      have hT : (fun w' : World => w'.cell? ⟨w.heap.size, 0, none⟩ = some (.bool s0) ∧ w'.cell? ⟨w.heap.size, 1, none⟩ = some (.slice A0 n0 c0) ∧ w'.cell? ⟨w.heap.size + 1, 0, none⟩ = some (.bool s1) ∧ w'.cell? ⟨w.heap.size + 1, 1, none⟩ = some (.slice A1 n1 c1) ∧ w'.cell? ⟨b, off + v * 4 + 2, none⟩ = some (.int .i64 (X : Int)) ∧ w'.cell? ⟨b, off + v * 4 + 3, none⟩ = some (.int .i64 (Y : Int))) w5 := ⟨(box2 hP5.out).1, (box2 hP5.out).2.1, (box2 hQ5.out).1, (box2 hQ5.out).2.1, y25, y35⟩
      refine hK.out _ _ (fun _ => hT) ?_
      clear hK K
      (try simp only [Act.put, List.setIfInBounds_toArray, List.set_cons_zero, List.set_cons_succ])
      refine Till.step (i := 14) (by kernel_rfl) rfl ?_
      intro K hK
      go_simp
      (go_at_call 51; refine (of_r (Y : Int) _ (by omega)).mono ?_; rintro e w6 ⟨s6, A6, n6, c6, rfl, hv6, hb6⟩; (have hP6 := Lib.hid (heap_below hP5.out hb6)); (have hQ6 := Lib.hid (heap_below hQ5.out hb6)); (have y26 := (hb6.cell (p := ⟨b, off + v * 4 + 2, none⟩) lt5).trans y25); (have y36 := (hb6.cell (p := ⟨b, off + v * 4 + 3, none⟩) lt5).trans y35); (have HB6 := Lib.hid hb6); (have HV6 := Lib.hid hv6); (have lt6 : b < w6.heap.size := Nat.lt_of_lt_of_le lt5 hb6.size); obtain ⟨p60, p61, p62, p63, -⟩ := box2 hP6.out; obtain ⟨q60, q61, q62, q63, -⟩ := box2 hQ6.out; clear hb6 hv6)
      have hT : (fun w' : World => w'.cell? ⟨w.heap.size, 0, none⟩ = some (.bool s0) ∧ w'.cell? ⟨w.heap.size, 1, none⟩ = some (.slice A0 n0 c0) ∧ w'.cell? ⟨w.heap.size + 1, 0, none⟩ = some (.bool s1) ∧ w'.cell? ⟨w.heap.size + 1, 1, none⟩ = some (.slice A1 n1 c1) ∧ w'.cell? ⟨b, off + v * 4 + 2, none⟩ = some (.int .i64 (X : Int)) ∧ w'.cell? ⟨b, off + v * 4 + 3, none⟩ = some (.int .i64 (Y : Int))) w6 := ⟨(box2 hP6.out).1, (box2 hP6.out).2.1, (box2 hQ6.out).1, (box2 hQ6.out).2.1, y26, y36⟩
      refine hK.out _ _ (fun _ => hT) ?_
      clear hK K
      (try simp only [Act.put, List.setIfInBounds_toArray, List.set_cons_zero, List.set_cons_succ])
      refine Till.step (i := 15) (by kernel_rfl) rfl ?_
      intro K hK
      go_simp
      (go_at_call 50; refine (timesof_r _ (x := ((V : Nat) : Int)) (y := ((Y : Nat) : Int)) (by exact ((Big.below (w := wr.drew) HW0.out HB4.out).below HB5.out).below HB6.out) (by exact HV6.out) sV sY).mono ?_; rintro e w7 ⟨s7, A7, n7, c7, rfl, hv7, hb7⟩; (have hP7 := Lib.hid (heap_below hP6.out hb7)); (have hQ7 := Lib.hid (heap_below hQ6.out hb7)); (have y27 := (hb7.cell (p := ⟨b, off + v * 4 + 2, none⟩) lt6).trans y26); (have y37 := (hb7.cell (p := ⟨b, off + v * 4 + 3, none⟩) lt6).trans y36); (have HB7 := Lib.hid hb7); (have HV7 := Lib.hid hv7); (have lt7 : b < w7.heap.size := Nat.lt_of_lt_of_le lt6 hb7.size); obtain ⟨p70, p71, p72, p73, -⟩ := box2 hP7.out; obtain ⟨q70, q71, q72, q73, -⟩ := box2 hQ7.out; clear hb7 hv7)
      have hT : (fun w' : World => w'.cell? ⟨w.heap.size, 0, none⟩ = some (.bool s0) ∧ w'.cell? ⟨w.heap.size, 1, none⟩ = some (.slice A0 n0 c0) ∧ w'.cell? ⟨w.heap.size + 1, 0, none⟩ = some (.bool s1) ∧ w'.cell? ⟨w.heap.size + 1, 1, none⟩ = some (.slice A1 n1 c1) ∧ w'.cell? ⟨b, off + v * 4 + 2, none⟩ = some (.int .i64 (X : Int)) ∧ w'.cell? ⟨b, off + v * 4 + 3, none⟩ = some (.int .i64 (Y : Int))) w7 := ⟨(box2 hP7.out).1, (box2 hP7.out).2.1, (box2 hQ7.out).1, (box2 hQ7.out).2.1, y27, y37⟩
      refine hK.out _ _ (fun _ => hT) ?_
      clear hK K
      (try simp only [Act.put, List.setIfInBounds_toArray, List.set_cons_zero, List.set_cons_succ])
      refine Till.step (i := 16) (by kernel_rfl) rfl ?_
      intro K hK
      go_simp
      refine hK.out _ _ (fun h => absurd h (by decide)) ?_
      clear hK K
      (try simp only [Act.put, List.setIfInBounds_toArray, List.set_cons_zero, List.set_cons_succ])
      refine Till.step (i := 17) (by kernel_rfl) rfl ?_
      intro K hK
      go_simp
      refine hK.out _ _ (fun h => absurd h (by decide)) ?_
      clear hK K
      (try simp only [Act.put, List.setIfInBounds_toArray, List.set_cons_zero, List.set_cons_succ])
      refine Till.done (by kernel_rfl) ?_ _
      all_goals
        obtain ⟨z1, z2, z3, z4, z5, z6⟩ := two_sets (w := w) (.bool s5) (.slice A5 n5 c5) (.bool s7) (.slice A7 n7 c7) hP7.out hQ7.out _ rfl
        have hB4 := below_then HB4.out HBL.out.drew (by exact hzr)
        have hB5 := below_then HB5.out hB4 hB4.size
        have hB6 := below_then HB6.out hB5 hB5.size
        have hB7 := below_then HB7.out hB6 hB6.size
        have hda7 := (((Dig.below (w := wr.drew) HDA.out HB4.out).below HB5.out).below HB6.out).below HB7.out
        have hv57 := (HV5.out.below HB6.out).below HB7.out
        have r1 := z4 _ _ _ _ _ hv57
        have r2 := z4 _ _ _ _ _ HV7.out
        have r3 := z5 _ _ _ hda7
        have r4 := z6 _ (Nat.le_refl _) hB7
        have hu1 : ((U : Nat) : Int) * ((X : Nat) : Int) = ((prodN ((LA.take (j + 1)).map (xU us)) : Nat) : Int) := by rw [HST1.out]; simp
        have hu2 : ((V : Nat) : Int) * ((Y : Nat) : Int) = ((prodN ((LA.take (j + 1)).map (yU us)) : Nat) : Int) := by rw [HST2.out]; simp
        rw [hu1] at r1
        rw [hu2] at r2
        have HREL := Lib.hid (And.intro z1 (And.intro z2 (And.intro r1 (And.intro r2 (And.intro r3 r4)))))
        clear z1 z2 z3 z4 z5 z6 r1 r2 r3 r4 hu1 hu2 hv57 hda7 hB4 hB5 hB6 hB7
        go_wp2
        go_roundw
        case rel => exact ⟨j + 1, s5, A5, n5, c5, s7, A7, n7, c7, by omega, by go_num, HREL.out⟩
        case measure => simp [intOf]; omega
    · obtain rfl : j = m := by omega
      rw [show LA.take j = LA from List.take_of_length_le (by rw [HM.out]; exact Nat.le_refl _)] at hUb hWb
      have HUb := Lib.hid hUb; have HWb := Lib.hid hWb; have HBL := Lib.hid hbel
      clear hUb hWb hda hbel
      go_wp2_with fail
      go_region
      all_goals
        obtain ⟨z1, z2, -, z4, -, z6⟩ := two_sets (w := w) (.bool s0) (.slice A0 n0 c0) (.bool s1) (.slice A1 n1 c1) hP hQ _ rfl
        obtain ⟨g0, g1, -, -, -⟩ := box2 z1
        obtain ⟨f0, f1, -, -, -⟩ := box2 z2
        go_wp2
        refine bodyPost_ret (v := .tuple #[.agg #[.bool s0, .slice A0 n0 c0], .agg #[.bool s1, .slice A1 n1 c1]]) (by simp [results, Tryz.results77, go_sem, g0, g1, f0, f1]) rfl ⟨s0, A0, n0, c0, s1, A1, n1, c1, rfl, by exact z4 _ _ _ _ _ HUb.out, by exact z4 _ _ _ _ _ HWb.out, by exact (z6 _ (by omega) HBL.out).drew⟩
end Go.Proofs.YtegobkaldedhhaaGreatDoor
