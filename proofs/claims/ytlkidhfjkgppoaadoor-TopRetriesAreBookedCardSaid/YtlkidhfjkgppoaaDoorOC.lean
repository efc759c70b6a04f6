
/- The walk of the law's own check: sums. -/
import Derived.Test.YtlkidhfjkgppoaaDoorOB
import Derived.Test.YtlkidhfjkgppoaaDoorA3
import Derived.IntWalk
namespace Go.Proofs.YtlkidhfjkgppoaaDoor
open Go.RowKit Limb Work Go.Maps
set_option linter.unusedVariables false
set_option linter.unusedSimpArgs false

set_option maxHeartbeats 1000000 in
set_option maxRecDepth 100000 in
theorem sums_c (w : World) : Calls Tryd.prog 5 #[] w fun e w' => e = .returned (.bool true) ∧ Below w.heap.size w w' := by
  have hR : sumR [(15, 1), (2, 0)] = (35, 1, 0) := by decide +kernel
  go_enter Tryd.func5, Tryd.ntmps5
  go_wp2_with fail
  have hX := heap_new w (.cells #[.int .i64 15, .int .i64 1, .int .i64 2, .int .i64 0] 51) rfl
  have hb0 : Below w.heap.size w (w.alloc (.cells #[.int .i64 15, .int .i64 1, .int .i64 2, .int .i64 0] 51)) := by go_grown
  have hD : Decs (w.alloc (.cells #[.int .i64 15, .int .i64 1, .int .i64 2, .int .i64 0] 51)) (some ⟨w.heap.size, 0, none⟩) 2 [(15, 1), (2, 0)] :=
    ⟨rfl, fun d hd => by simp at hd; rcases hd with rfl | rfl <;> decide, fun _ => ⟨w.heap.size, 0, rfl, lt_heap hX, fun j hj => by
      match j, hj with
      | 0, _ => exact ⟨cell_of_row _ _ 0 _ _ _ hX, cell_of_row _ _ 1 _ _ _ hX⟩
      | 1, _ => exact ⟨cell_of_row _ _ 2 _ _ _ hX, cell_of_row _ _ 3 _ _ _ hX⟩⟩⟩
  have HS := Lib.hid (sum_ok [(15, 1), (2, 0)] _ 2 2 _ hD (by decide) (by decide +kernel))
  rw [hR] at HS
  clear hR hX hD
  refine HS.out.mono ?_
  rintro e w1 ⟨rfl, hb1⟩
  have hB1 := below_then hb1 hb0 hb0.size
  clear hb0 hb1 HS
  go_wp2
  go_ret
  exact ⟨rfl, hB1.alloc hB1.size _⟩

set_option maxRecDepth 100000 in
theorem contains_c (A : Option Addr) (n c : Nat) (l : List Int) (x : Int) (w : World) (hn : n ≤ 9223372036854775807) (h : Ints w A n l) :
    Calls Tryd.prog 10 #[.slice A n c, .int .i64 x] w fun e w' => e = .returned (.bool (l.contains x)) ∧ w' = w := by
  rcases Nat.eq_zero_or_pos n with h0 | h0
  · subst h0
    obtain rfl : l = [] := List.length_eq_zero_iff.1 h.1
    exact Tryd.slices_Contains_int_empty A c x w
  · obtain ⟨b, off, rfl, hl, hc⟩ := h.2.2 h0
    have := Tryd.slices_Contains_int b off n c l x w (by rw [h.1]; exact Nat.le_refl _) hn (fun j hj => by rw [h.1] at hj; exact hc j hj)
    rw [← h.1, List.take_length] at this
    rw [← h.1]
    exact this
theorem own_tne {w : World} {B e size n g : Nat} {v : Value} {xs : List Value} {cs : Array Value} {T : TypeId} {f : Nat × Nat} (h : w.ownsRow B e size v n xs) (hx : w.heap[g]? = some (.cells cs T f)) (hne : e ≠ T) : some g ≠ v.ownBlock := by
  rcases h.2 with ⟨rfl, _⟩ | ⟨g', cap, cur, rfl, _, hh, _⟩
  · simp [Value.ownBlock]
  · intro he
    simp [Value.ownBlock] at he
    subst he
    rw [hh] at hx
    injection hx with hx
    injection hx with _ hx _
    exact hne hx

set_option maxHeartbeats 8000000 in
set_option maxRecDepth 100000 in
theorem law_retries (p : Pol) (A B : Option Addr) (c d : Nat) (js : List Jb) (os : List Otg) (wait m : Int) (w : World) (hn : js.length ≤ 9223372036854775807) (hm : os.length ≤ 9223372036854775807) (hj : Jobs w A js) (ho : Outs w B os) (ht : Tab w) :
    Calls Tryd.prog 3 #[polV p, .slice A js.length c, .slice B os.length d, .int .i64 wait, .int .i64 m] w fun e w' => e = .returned (.bool true) ∧ Below w.heap.size w w' := by
  have HO := Lib.hid (fun w hj ho => Outbox_c p A B c d js os w hn hm hj ho)
  have Hj := Lib.hid hj; have Ho := Lib.hid ho; have Ht := Lib.hid ht
  have HPE := Lib.hid (fun r w h1 h2 h3 h4 h5 h6 => pending_c p A B c d js os r m w h1 h2 h3 h4 h5 h6)
  obtain ⟨n, hnn⟩ : ∃ n, js.length = n := ⟨_, rfl⟩
  obtain ⟨mo, hmm⟩ : ∃ m, os.length = m := ⟨_, rfl⟩
  have HNN := Lib.hid hnn
  unfold RetBox at HO
  unfold RetPend at HPE
  rw [hnn, hmm] at HO HPE
  rw [hnn, hmm]
  clear hn hm hj ho hnn hmm ht
  obtain ⟨F, K, M2, T, io⟩ := p
  unfold polV at *
  simp only at HO HPE ⊢
  go_enter Tryd.func3, Tryd.ntmps3
  go_wp2_with fail
  have hX := heap_new w (.cells #[.int .i64 F, .int .i64 K, .int .i64 M2, .int .i64 T, .bool io] 23) rfl
  have hb0 : Below w.heap.size w (w.alloc (.cells #[.int .i64 F, .int .i64 K, .int .i64 M2, .int .i64 T, .bool io] 23)) := by go_grown
  generalize w.alloc (.cells #[.int .i64 F, .int .i64 K, .int .i64 M2, .int .i64 T, .bool io] 23) = w1 at hX hb0 ⊢
  refine (HO.out _ (Hj.out.below hb0) (Ho.out.below hb0)).mono ?_
  rintro e w2 ⟨hb2, hr⟩
  have hX2 := heap_below hX hb2
  have hB2 := below_then hb2 hb0 hb0.size
  clear hX hb0 hb2
  rcases hr with ⟨f, hf, rfl⟩ | ⟨hok, r, A2, c2, hpo, rfl, hrw⟩
  · have hf1 : (f != 0) = true := by simpa using hf
    have hf2 : (f == 0) = false := by simpa using hf
    clear hf
    go_wp2_with fail
    refine (sums_c _).mono ?_
    rintro e w3 ⟨rfl, hb3⟩
    have hB3 := below_then hb3 hB2 hB2.size
    go_wp2
    go_ret
    exact ⟨rfl, hB3⟩
  have hws : ∀ x ∈ waitsL ⟨F, K, M2, T, io⟩, 0 ≤ x := fun x hx => by
    have := waitsF_rng (K := K) (M := M2) hok.1.2.1.1 (by have := hok.1.1; have := hok.1.2.2.1; simp only at *; omega) _ _ hok.1.1.1 hok.1.2.2.1.1 x hx
    omega
  obtain ⟨hrl, hsk⟩ := outL_ok hws (fun j hj => by
    obtain ⟨i, hi, rfl⟩ := List.getElem_of_mem hj
    have := (hok.2.1.2 i hi).2.1
    rw [jA_get hi]; exact this.1) hpo
  have hwl : (waitsL ⟨F, K, M2, T, io⟩).length = (T - 1).toNat := by unfold waitsL; rw [waitsF_len]
  have hT := hok.1.2.2.2
  have hn1 := hok.2.1.1
  rw [HNN.out] at hn1
  have HSK := Lib.hid (show ∀ i, i < n → sentOk (sA r i) (jA js i).at_ 1 T from fun i hi => by
    have h1 := hsk i (by rw [hrl, HNN.out]; exact hi) (by rw [HNN.out]; exact hi)
    rw [sA_get, jA_get] at h1
    exact h1.mono (Int.le_refl _) (Int.le_refl _) (by rw [hwl]; simp only at hT; omega))
  have HPN := Lib.hid (fun w => HPE.out r w hok hpo (hrl.trans HNN.out))
  have hrn : r.length = n := by rw [hrl, HNN.out]
  have HRW := Lib.hid hrw
  have HRN := Lib.hid hrn
  have HJN := Lib.hid (show ∀ i, i < n → 0 ≤ (jA js i).at_ ∧ (jA js i).at_ ≤ 1000000000000000 from fun i hi => (hok.2.1.2 i (by rw [HNN.out]; exact hi)).2.1)
  rw [hrn] at HRW ⊢
  simp only at hT
  clear hok hpo hrw hws hsk hwl hrl hrn HPE HO
  by_cases hin : (0 ≤ wait ∧ wait ≤ 10000000) ∧ 0 ≤ m ∧ m ≤ 1000000000000000
  case neg =>
    by_cases h1 : wait < 0
    · go_wp2_with fail
      refine (sums_c _).mono ?_
      rintro e w3 ⟨rfl, hb3⟩
      have hB3 := below_then hb3 hB2 hB2.size
      go_wp2
      go_ret
      exact ⟨rfl, hB3⟩
    by_cases h2 : 10000000 < wait
    · go_wp2_with fail
      refine (sums_c _).mono ?_
      rintro e w3 ⟨rfl, hb3⟩
      have hB3 := below_then hb3 hB2 hB2.size
      go_wp2
      go_ret
      exact ⟨rfl, hB3⟩
    by_cases h3 : m < 0
    · go_wp2_with fail
      refine (sums_c _).mono ?_
      rintro e w3 ⟨rfl, hb3⟩
      have hB3 := below_then hb3 hB2 hB2.size
      go_wp2
      go_ret
      exact ⟨rfl, hB3⟩
    have h4 : 1000000000000000 < m := by omega
    clear hin
    go_wp2_with fail
    refine (sums_c _).mono ?_
    rintro e w3 ⟨rfl, hb3⟩
    have hB3 := below_then hb3 hB2 hB2.size
    go_wp2
    go_ret
    exact ⟨rfl, hB3⟩
  obtain ⟨⟨q1, q2⟩, q3, q4⟩ := hin
  -- LOOP
  go_wp2_with fail
  obtain ⟨Z, hZ⟩ : ∃ Z, w2.heap.size = Z := ⟨_, rfl⟩
  have HZ := Lib.hid hZ
  have hwZ := hB2.size
  rw [hZ] at hwZ
  have hpl := lt_heap hX2
  rw [hZ] at hpl
  have HX2 := Lib.hid hX2
  clear hX2 hZ
  go_loopw [13, 14, 79] (fun mv bv iv wr => ∃ (k q cb : Nat) (Ab : Option Addr), k ≤ n ∧ iv = .int .i64 k ∧ mv = .int .i64 q ∧ bv = .slice Ab q cb ∧ Hid ((bookF m wait r k).length = q) ∧ wr.ownsRow Z 35 5 (.slice Ab q cb) q (evC (bookF m wait r k)) ∧ Below w.heap.size w wr ∧ Below Z w2 wr ∧ Z ≤ wr.heap.size) (fun _ _ iv _ => n - (intOf iv).toNat)
  case atStart => exact ⟨0, 0, 0, none, Nat.zero_le _, rfl, rfl, rfl, Lib.hid rfl, World.ownsRow_nil _ _ _ _, hB2, Below.refl _ _, by rw [HZ.out]; exact Nat.le_refl _⟩
  case round =>
    obtain ⟨k, q, cb, Ab, hk, rfl, rfl, rfl, HQ, hown, hb, hbz, hzr⟩ := hrel
    have hbZ : Below w2.heap.size w2 wr := by rw [HZ.out]; exact hbz
    rcases Nat.lt_or_ge k n with hlt | hge
    · have hltj : k < js.length := by rw [HNN.out]; exact hlt
      obtain ⟨b, off, rfl, hbw, hc⟩ := Hj.out.2.get hltj
      obtain ⟨b2, off2, rfl, hbw2, hc2⟩ := (HRW.out.below hbZ).get hlt
      have c1 : w.cell? ⟨b, off + k * 2 + 1, none⟩ = some (.int .i64 (jA js k).at_) := hc 1 (by decide)
      have d0 : wr.cell? ⟨b2, off2 + k * 3, none⟩ = some (.int .i64 (sA r k).tries) := hc2 0 (by decide)
      have d1 : wr.cell? ⟨b2, off2 + k * 3 + 1, none⟩ = some (.int .i64 (sA r k).done) := hc2 1 (by decide)
      have d2 : wr.cell? ⟨b2, off2 + k * 3 + 2, none⟩ = some (.int .i64 (sA r k).gave) := hc2 2 (by decide)
      have hsk := HSK.out k hlt
      have hq1000 := (bookF_props (m := m) (wait := wait) (r := r) ⟨q1, q2⟩ k (by omega)).1
      rw [HQ.out] at hq1000
      obtain ⟨xa, hxa⟩ : ∃ xa, (jA js k).at_ = xa := ⟨_, rfl⟩
      obtain ⟨⟨x1, x2, x3⟩, hx⟩ : ∃ x, sA r k = x := ⟨_, rfl⟩
      have HXV := Lib.hid hx
      rw [hxa] at c1 hsk
      rw [hx] at d0 d1 d2 hsk
      obtain ⟨t1, t2, hsk⟩ := hsk
      simp only at d0 d1 d2 hsk t1 t2
      have hbw' := hbw
      have hX4 := heap_new wr (.cells #[.int .i64 x1, .int .i64 x2, .int .i64 x3] 33) rfl
      have hP4 := heap_old (heap_below HX2.out hbZ) (.cells #[.int .i64 x1, .int .i64 x2, .int .i64 x3] 33)
      have hO4 := hown.alloc (.cells #[.int .i64 x1, .int .i64 x2, .int .i64 x3] 33)
      have hb4 : Below w.heap.size w (wr.alloc (.cells #[.int .i64 x1, .int .i64 x2, .int .i64 x3] 33)) := hb.alloc hb.size _
      have hbz4 : Below Z w2 (wr.alloc (.cells #[.int .i64 x1, .int .i64 x2, .int .i64 x3] 33)) := hbz.alloc hzr _
      have hz4 : Z ≤ (wr.alloc (.cells #[.int .i64 x1, .int .i64 x2, .int .i64 x3] 33)).heap.size := by simp; omega
      clear hc hc2 hxa hx hltj hown
      go_upto_region 9 with fail
      obtain ⟨xb, hxb⟩ : ∃ xb, wr.heap.size = xb := ⟨_, rfl⟩
      rw [hxb] at hX4 hzr ⊢
      generalize wr.alloc (.cells #[.int .i64 x1, .int .i64 x2, .int .i64 x3] 33) = w4 at hX4 hP4 hO4 hb4 hbz4 hz4 ⊢
      have c4 := (hb4.cell (p := ⟨b, off + k * 2 + 1, none⟩) hbw').trans c1
      clear d0 d1 d2 c1 hb hbz hbZ hbw2 hxb
      obtain ⟨⟨e0, e1, e2⟩, -, e3⟩ := obox3 hX4
      obtain ⟨p0, p1, p2, p3, p4, p5⟩ := obox5 hP4
      have HOW := Lib.hid hO4; have HX4 := Lib.hid hX4; have HP4 := Lib.hid hP4
      clear hO4 hX4 hP4
      rcases hsk with ⟨s1, s2, s3, s4⟩ | ⟨s1, s2, s3, s4⟩
      · by_cases hxm : x2 ≤ m
        · subst s4
          have HBK := Lib.hid (show bookF m wait r (k + 1) = insE (bookF m wait r k) (posE (bookF m wait r k) x2) ⟨x2, x2 + wait, refOf k⟩ from by rw [bookF, HXV.out, if_pos (by unfold inB2; rw [decide_eq_true s1, decide_eq_true hxm]; rfl)]; unfold evOf; rw [HXV.out])
          obtain ⟨es, hes⟩ : ∃ es, bookF m wait r k = es := ⟨_, rfl⟩
          rw [hes] at HBK HOW HQ
          have hpq : posE es x2 ≤ q := by rw [← HQ.out]; exact posE_le es x2
          obtain ⟨pos, hpos⟩ : ∃ pos, posE es x2 = pos := ⟨_, rfl⟩
          rw [hpos] at HBK hpq
          have HPO := Lib.hid hpos
          obtain ⟨D, hD⟩ : ∃ D : ByteArray, (⟨(Lib.decDigits k).toArray⟩ : ByteArray) = D := ⟨_, rfl⟩
          have hDs : D.size ≤ 3 := by
            have := (dec_fin ⟨k, by omega⟩).2.1
            rw [← hD]
            simpa [ByteArray.size] using this
          have HRF := Lib.hid (show refOf k = ⟨#[74, 45]⟩ ++ D by unfold refOf; rw [hD])
          have HIT := Lib.hid (fun w ht => itoa_c (k : Int) w (by omega) (by omega) ht)
          rw [Int.toNat_natCast, hD] at HIT
          rw [HRF.out] at HBK
          clear hes hpos hD
          go_wp2
          go_loopw [17] (fun av wr2 => ∃ (j nq : Nat), j ≤ pos ∧ av = .int .i64 j ∧ wr2 = w4.drewN nq) (fun av _ => q - (intOf av).toNat)
          case atStart => exact ⟨0, 0, Nat.zero_le _, rfl, rfl⟩
          case round =>
            obtain ⟨j, nr, hjp, rfl, rfl⟩ := hrel
            rcases Nat.lt_or_ge j pos with hjl | hjg
            · obtain ⟨g, rfl, hgZ, hgl, hcg⟩ := own_row HOW.out (by omega)
              have hje : j < es.length := by rw [HQ.out]; omega
              have ct : w4.cell? ⟨g, j * 5 + 1, none⟩ = some (.int .i64 (eA es j).time) := by
                rw [hcg (j * 5 + 1) (by omega), evC_at hje 1 (by decide)]; rfl
              have htm := posE_in es x2 j (by rw [HPO.out]; exact hjl)
              generalize (eA es j).time = tj at ct htm
              have k0 : decide ((j : Int) < (q : Int)) = true := decide_eq_true (by omega)
              have k1 : decide (tj ≤ x2) = true := decide_eq_true htm
              have k5 : (0 : Int) ≤ (j : Int) := by omega
              have k6 : (j : Int) < (q : Int) := by omega
              clear hcg
              go_wp2_with fail
              go_quiet (fail)
              go_wp2
              go_roundw
              case rel => exact ⟨j + 1, _, by omega, by go_num, rfl⟩
              case measure => simp [intOf]; omega
            · obtain rfl : j = pos := by omega
              rcases Nat.lt_or_ge j q with hjq | hjq
              · obtain ⟨g, rfl, hgZ, hgl, hcg⟩ := own_row HOW.out (by omega)
                have hje : j < es.length := by rw [HQ.out]; omega
                have ct : w4.cell? ⟨g, j * 5 + 1, none⟩ = some (.int .i64 (eA es j).time) := by
                  rw [hcg (j * 5 + 1) (by omega), evC_at hje 1 (by decide)]; rfl
                have htm := posE_out es x2 (by rw [HPO.out]; exact hje)
                rw [HPO.out] at htm
                generalize (eA es j).time = tj at ct htm
                have k0 : decide ((j : Int) < (q : Int)) = true := decide_eq_true (by omega)
                have k1 : decide (tj ≤ x2) = false := decide_eq_false (by omega)
                have k5 : (0 : Int) ≤ (j : Int) := by omega
                have k6 : (j : Int) < (q : Int) := by omega
                clear hcg hje
                go_wp2_with fail
                go_quiet (fail)
                go_wp2_with fail
                clear k0 k1 ct
                have hX5 : ((w4.drewN nr).drewN nq).heap[xb]? = some (.cells #[.int .i64 x1, .int .i64 x2, .int .i64 (-1)] 33 (0, 0)) := by exact HX4.out
                have hP5 : ((w4.drewN nr).drewN nq).heap[w.heap.size]? = some (.cells #[.int .i64 F, .int .i64 K, .int .i64 M2, .int .i64 T, .bool io] 23 (0, 0)) := by exact HP4.out
                have hO5 : ((w4.drewN nr).drewN nq).ownsRow Z 35 5 (.slice (some ⟨g, 0, none⟩) q cb) q (evC es) := by exact HOW.out
                have hb5 := below_drewN (below_drewN hb4 nr) nq
                have hbz5 := below_drewN (below_drewN hbz4 nr) nq
                have hz5 : Z ≤ ((w4.drewN nr).drewN nq).heap.size := by exact hz4
                generalize (w4.drewN nr).drewN nq = w5 at hX5 hP5 hO5 hb5 hbz5 hz5 ⊢
                have hT5 := Ht.out.below hb5
                have e5 := cell_of_row _ _ 1 _ _ _ hX5
                have kc : ¬ (9223372036854775807 < 2 + D.size) := by omega
                have hw8 : IntKind.i64.wrap (x2 + wait) = x2 + wait := IntWalk.i64_in _ (by omega)
                have HX5 := Lib.hid hX5; have HO5 := Lib.hid hO5; have HT5 := Lib.hid hT5; have HP5 := Lib.hid hP5
                clear hX5 hO5 hT5 hP5 e0 e1 e2 p0 p1 p2 p3 p4
                go_region_held3 (fun w' => w'.cell? ⟨xb, 1, none⟩ = some (.int .i64 x2)) (go_keep)
                  (first
                    | (go_at_call 7; refine (HIT.out _ (HT5.out.below (by go_grown))).mono ?_; rintro e w6 ⟨rfl, hb6⟩; have hB6 : Below w5.heap.size w5 w6 := below_then hb6 (by go_grown) (by simp); have e6 := cell_of_row _ _ 1 _ _ _ (heap_below HX5.out hB6); have hO6 := Lib.hid (own_below HO5.out hB6))
                    | (go_at_call 6; refine (insert_c (some ⟨g, 0, none⟩) cb q j w6.heap.size Z es ⟨x2, x2 + wait, ⟨#[74, 45]⟩ ++ D⟩ (w6.alloc (.cells #[.int .i64 1, .int .i64 x2, .int .i64 (x2 + wait), .string (⟨#[74, 45]⟩ ++ D), .int .i64 0] 35)) HQ.out hpq (by omega) (by simp; have := hB6.size; omega) (fun a ha => by have := (hO6.out.lt a.block (by rw [ha]; rfl)).2; omega) (hO6.out.alloc _) (heap_new _ _ rfl)).mono ?_; rintro e w8 ⟨A3, c3, rfl, hown8, hg8⟩; have hX8 := Lib.hid (grown_ne hg8 (heap_old (heap_below HX5.out hB6) (.cells #[.int .i64 1, .int .i64 x2, .int .i64 (x2 + wait), .string (⟨#[74, 45]⟩ ++ D), .int .i64 0] 35)) (own_tne HO5.out HX5.out (by decide))); have e8 := cell_of_row _ _ 1 _ _ _ hX8.out)
                    | fail)
                all_goals
                  have hlen : (insE es j ⟨x2, x2 + wait, ⟨#[74, 45]⟩ ++ D⟩).length = q + 1 := by rw [ins_len, HQ.out]
                  rw [hlen] at hown8 ⊢
                  rw [← HBK.out] at hown8
                  have HQ2 := Lib.hid (show (bookF m wait r (k + 1)).length = q + 1 by rw [HBK.out, hlen])
                  have hb6' := below_then hB6 hb5 hb5.size
                  have hbz6 := below_then hB6 hbz5 hz5
                  have hz6 := Nat.le_trans hz5 hB6.size
                  have hb7 : Below w.heap.size w (w6.alloc (.cells #[.int .i64 1, .int .i64 x2, .int .i64 (x2 + wait), .string (⟨#[74, 45]⟩ ++ D), .int .i64 0] 35)) := hb6'.alloc hb6'.size _
                  have hbz7 : Below Z w2 (w6.alloc (.cells #[.int .i64 1, .int .i64 x2, .int .i64 (x2 + wait), .string (⟨#[74, 45]⟩ ++ D), .int .i64 0] 35)) := hbz6.alloc hz6 _
                  have hz7 : Z ≤ (w6.alloc (.cells #[.int .i64 1, .int .i64 x2, .int .i64 (x2 + wait), .string (⟨#[74, 45]⟩ ++ D), .int .i64 0] 35)).heap.size := by simp; omega
                  have hb8 := hb7.grown hg8 hb7.size (fun i hi => by have := (hO6.out.lt i hi).1; omega)
                  have hbz8 := hbz7.grown hg8 hz7 (fun i hi => (hO6.out.lt i hi).1)
                  have hz8 := Nat.le_trans hz7 hg8.size
                  have hP8 := grown_ne hg8 (heap_old (heap_below HP5.out hB6) (.cells #[.int .i64 1, .int .i64 x2, .int .i64 (x2 + wait), .string (⟨#[74, 45]⟩ ++ D), .int .i64 0] 35)) (own_block hO6.out (by omega))
                  have hX9 := hX8.out
                  have c8 := (hb8.cell (p := ⟨b, off + k * 2 + 1, none⟩) hbw').trans ((hb4.cell (p := ⟨b, off + k * 2 + 1, none⟩) hbw').symm.trans c4)
                  obtain ⟨⟨e0, e1, e2⟩, -, e3⟩ := obox3 hX9
                  obtain ⟨p0, p1, p2, p3, p4, p5⟩ := obox5 hP8
                  have HOW8 := Lib.hid hown8; have HB8 := Lib.hid hb8; have HBZ8 := Lib.hid hbz8; have HZ8 := Lib.hid hz8
                  clear hlen hown8 hg8 hb6' hbz6 hz6 hb7 hbz7 hz7 hb8 hbz8 hz8 hP8 hX9 hb5 hbz5 hz5 hB6 hw8 kc e5 e8 c4 HSK HPN HRW HJN Ht HIT HO5 HT5 HP5 HX5
                  have k0 : decide ((0 : Int) ≤ x2) = true := decide_eq_true s1
                  have k1 : decide (x1 < 1) = false := decide_eq_false (by omega)
                  have k2 : decide (T < x1) = false := decide_eq_false (by omega)
                  have k3 : decide (x2 < xa) = false := decide_eq_false (by omega)
                  have k4 : decide ((0 : Int) ≤ -1) = false := by decide
                  have k5 : (0 : Int) ≤ (k : Int) := by omega
                  have k6 : (k : Int) < (n : Int) := by omega
                  go_wp2
                  go_quiet (fail)
                  go_wp2
                  go_roundw
                  case rel => exact ⟨k + 1, q + 1, c3, A3, by omega, by go_num, by go_num, rfl, HQ2, HOW8.out, below_drewN HB8.out _, below_drewN HBZ8.out _, HZ8.out⟩
                  case measure => simp [intOf]; omega
              · have k0 : decide ((j : Int) < (q : Int)) = false := decide_eq_false (by omega)
                have kN : decide (j < q) = false := decide_eq_false (by omega)
                have kM : ¬ (j : Int) < (q : Int) := by omega
                go_wp2_with fail
                go_quiet (fail)
                go_wp2_with fail
                clear k0 kN kM
                have hX5 : ((w4.drewN nr).drewN nq).heap[xb]? = some (.cells #[.int .i64 x1, .int .i64 x2, .int .i64 (-1)] 33 (0, 0)) := by exact HX4.out
                have hP5 : ((w4.drewN nr).drewN nq).heap[w.heap.size]? = some (.cells #[.int .i64 F, .int .i64 K, .int .i64 M2, .int .i64 T, .bool io] 23 (0, 0)) := by exact HP4.out
                have hO5 : ((w4.drewN nr).drewN nq).ownsRow Z 35 5 (.slice Ab q cb) q (evC es) := by exact HOW.out
                have hb5 := below_drewN (below_drewN hb4 nr) nq
                have hbz5 := below_drewN (below_drewN hbz4 nr) nq
                have hz5 : Z ≤ ((w4.drewN nr).drewN nq).heap.size := by exact hz4
                generalize (w4.drewN nr).drewN nq = w5 at hX5 hP5 hO5 hb5 hbz5 hz5 ⊢
                have hT5 := Ht.out.below hb5
                have e5 := cell_of_row _ _ 1 _ _ _ hX5
                have kc : ¬ (9223372036854775807 < 2 + D.size) := by omega
                have hw8 : IntKind.i64.wrap (x2 + wait) = x2 + wait := IntWalk.i64_in _ (by omega)
                have HX5 := Lib.hid hX5; have HO5 := Lib.hid hO5; have HT5 := Lib.hid hT5; have HP5 := Lib.hid hP5
                clear hX5 hO5 hT5 hP5 e0 e1 e2 p0 p1 p2 p3 p4
                go_region_held3 (fun w' => w'.cell? ⟨xb, 1, none⟩ = some (.int .i64 x2)) (go_keep)
                  (first
                    | (go_at_call 7; refine (HIT.out _ (HT5.out.below (by go_grown))).mono ?_; rintro e w6 ⟨rfl, hb6⟩; have hB6 : Below w5.heap.size w5 w6 := below_then hb6 (by go_grown) (by simp); have e6 := cell_of_row _ _ 1 _ _ _ (heap_below HX5.out hB6); have hO6 := Lib.hid (own_below HO5.out hB6))
                    | (go_at_call 6; refine (insert_c Ab cb q j w6.heap.size Z es ⟨x2, x2 + wait, ⟨#[74, 45]⟩ ++ D⟩ (w6.alloc (.cells #[.int .i64 1, .int .i64 x2, .int .i64 (x2 + wait), .string (⟨#[74, 45]⟩ ++ D), .int .i64 0] 35)) HQ.out hpq (by omega) (by simp; have := hB6.size; omega) (fun a ha => by have := (hO6.out.lt a.block (by rw [ha]; rfl)).2; omega) (hO6.out.alloc _) (heap_new _ _ rfl)).mono ?_; rintro e w8 ⟨A3, c3, rfl, hown8, hg8⟩; have hX8 := Lib.hid (grown_ne hg8 (heap_old (heap_below HX5.out hB6) (.cells #[.int .i64 1, .int .i64 x2, .int .i64 (x2 + wait), .string (⟨#[74, 45]⟩ ++ D), .int .i64 0] 35)) (own_tne HO5.out HX5.out (by decide))); have e8 := cell_of_row _ _ 1 _ _ _ hX8.out)
                    | fail)
                all_goals
                  have hlen : (insE es j ⟨x2, x2 + wait, ⟨#[74, 45]⟩ ++ D⟩).length = q + 1 := by rw [ins_len, HQ.out]
                  rw [hlen] at hown8 ⊢
                  rw [← HBK.out] at hown8
                  have HQ2 := Lib.hid (show (bookF m wait r (k + 1)).length = q + 1 by rw [HBK.out, hlen])
                  have hb6' := below_then hB6 hb5 hb5.size
                  have hbz6 := below_then hB6 hbz5 hz5
                  have hz6 := Nat.le_trans hz5 hB6.size
                  have hb7 : Below w.heap.size w (w6.alloc (.cells #[.int .i64 1, .int .i64 x2, .int .i64 (x2 + wait), .string (⟨#[74, 45]⟩ ++ D), .int .i64 0] 35)) := hb6'.alloc hb6'.size _
                  have hbz7 : Below Z w2 (w6.alloc (.cells #[.int .i64 1, .int .i64 x2, .int .i64 (x2 + wait), .string (⟨#[74, 45]⟩ ++ D), .int .i64 0] 35)) := hbz6.alloc hz6 _
                  have hz7 : Z ≤ (w6.alloc (.cells #[.int .i64 1, .int .i64 x2, .int .i64 (x2 + wait), .string (⟨#[74, 45]⟩ ++ D), .int .i64 0] 35)).heap.size := by simp; omega
                  have hb8 := hb7.grown hg8 hb7.size (fun i hi => by have := (hO6.out.lt i hi).1; omega)
                  have hbz8 := hbz7.grown hg8 hz7 (fun i hi => (hO6.out.lt i hi).1)
                  have hz8 := Nat.le_trans hz7 hg8.size
                  have hP8 := grown_ne hg8 (heap_old (heap_below HP5.out hB6) (.cells #[.int .i64 1, .int .i64 x2, .int .i64 (x2 + wait), .string (⟨#[74, 45]⟩ ++ D), .int .i64 0] 35)) (own_block hO6.out (by omega))
                  have hX9 := hX8.out
                  have c8 := (hb8.cell (p := ⟨b, off + k * 2 + 1, none⟩) hbw').trans ((hb4.cell (p := ⟨b, off + k * 2 + 1, none⟩) hbw').symm.trans c4)
                  obtain ⟨⟨e0, e1, e2⟩, -, e3⟩ := obox3 hX9
                  obtain ⟨p0, p1, p2, p3, p4, p5⟩ := obox5 hP8
                  have HOW8 := Lib.hid hown8; have HB8 := Lib.hid hb8; have HBZ8 := Lib.hid hbz8; have HZ8 := Lib.hid hz8
                  clear hlen hown8 hg8 hb6' hbz6 hz6 hb7 hbz7 hz7 hb8 hbz8 hz8 hP8 hX9 hb5 hbz5 hz5 hB6 hw8 kc e5 e8 c4 HSK HPN HRW HJN Ht HIT HO5 HT5 HP5 HX5
                  have k0 : decide ((0 : Int) ≤ x2) = true := decide_eq_true s1
                  have k1 : decide (x1 < 1) = false := decide_eq_false (by omega)
                  have k2 : decide (T < x1) = false := decide_eq_false (by omega)
                  have k3 : decide (x2 < xa) = false := decide_eq_false (by omega)
                  have k4 : decide ((0 : Int) ≤ -1) = false := by decide
                  have k5 : (0 : Int) ≤ (k : Int) := by omega
                  have k6 : (k : Int) < (n : Int) := by omega
                  go_wp2
                  go_quiet (fail)
                  go_wp2
                  go_roundw
                  case rel => exact ⟨k + 1, q + 1, c3, A3, by omega, by go_num, by go_num, rfl, HQ2, HOW8.out, below_drewN HB8.out _, below_drewN HBZ8.out _, HZ8.out⟩
                  case measure => simp [intOf]; omega
        · subst s4
          have HBK := Lib.hid (show bookF m wait r (k + 1) = bookF m wait r k from by rw [bookF, if_neg]; rw [HXV.out]; unfold inB2; rw [decide_eq_false (show ¬ x2 ≤ m from hxm)]; simp)
          have HQ2 := Lib.hid (show (bookF m wait r (k + 1)).length = q from by rw [HBK.out, HQ.out])
          have HOW2 := Lib.hid (show w4.ownsRow Z 35 5 (.slice Ab q cb) q (evC (bookF m wait r (k + 1))) from by rw [HBK.out]; exact HOW.out)

          have k0 : decide ((0 : Int) ≤ x2) = true := decide_eq_true s1
          have k1 : decide (x1 < 1) = false := decide_eq_false (by omega)
          have k2 : decide (T < x1) = false := decide_eq_false (by omega)
          have k3 : decide (x2 < xa) = false := decide_eq_false (by omega)
          have k4 : decide ((0 : Int) ≤ -1) = false := by decide
          have k5 : (0 : Int) ≤ (k : Int) := by omega
          have k6 : (k : Int) < (n : Int) := by omega
          go_wp2
          go_quiet (fail)
          go_wp2
          go_roundw
          case rel => exact ⟨k + 1, q, cb, Ab, by omega, by go_num, rfl, rfl, HQ2, HOW2.out, below_drewN hb4 _, below_drewN hbz4 _, hz4⟩
          case measure => simp [intOf]; omega
      · subst s1
        have HBK := Lib.hid (show bookF m wait r (k + 1) = bookF m wait r k from by rw [bookF, if_neg]; rw [HXV.out]; unfold inB2; simp)
        have HQ2 := Lib.hid (show (bookF m wait r (k + 1)).length = q from by rw [HBK.out, HQ.out])
        have HOW2 := Lib.hid (show w4.ownsRow Z 35 5 (.slice Ab q cb) q (evC (bookF m wait r (k + 1))) from by rw [HBK.out]; exact HOW.out)

        have k0 : decide ((0 : Int) ≤ x3) = true := decide_eq_true s2
        have k1 : decide (x1 < 1) = false := decide_eq_false (by omega)
        have k2 : decide (T < x1) = false := decide_eq_false (by omega)
        have k4 : decide ((0 : Int) ≤ -1) = false := by decide
        have k5 : (0 : Int) ≤ (k : Int) := by omega
        have k6 : (k : Int) < (n : Int) := by omega
        go_wp2
        go_quiet (fail)
        go_wp2
        go_roundw
        case rel => exact ⟨k + 1, q, cb, Ab, by omega, by go_num, rfl, rfl, HQ2, HOW2.out, below_drewN hb4 _, below_drewN hbz4 _, hz4⟩
        case measure => simp [intOf]; omega
    · obtain rfl : k = n := by omega
      obtain ⟨f1, f2, f3, f4⟩ := bookF_props (m := m) (wait := wait) (r := r) ⟨q1, q2⟩ k (by omega)
      obtain ⟨es, hes⟩ : ∃ es, bookF m wait r k = es := ⟨_, rfl⟩
      rw [hes] at f1 f2 f3 f4 HQ hown
      have hok : BookOk m es := book_of (by omega) (fun x hx => (f2 x hx).1) f3
      have hap : RefsApart es := apart_of f4
      have hqc := own_cap hown
      have hev : Evs wr Ab es := by
        unfold Evs
        rw [HQ.out]
        exact own_rws hown (fun j hj i hi => evC_at (by rw [HQ.out]; exact hj) i hi)
      have HST := Lib.hid (stand_c Ab cb es m wr ⟨q3, q4⟩ (by rw [HQ.out]; exact hqc.1) (by have := hqc.2; unfold maxLen at this; exact this) hok hap hev)
      rw [HQ.out] at HST
      have hP1 := heap_below HX2.out hbZ
      have hqb : q ≤ 1000 := by have := HQ.out; omega
      clear f1 f2 f3 f4 hes hok hap hqc hev hown
      go_wp2_with fail
      refine HST.out.mono ?_
      rintro e w5 ⟨hb5, a, b9, hab, rfl⟩
      have hP5 := heap_below hP1 hb5
      have hB5 := below_then hb5 hb hb.size
      have hZ5 := below_then hb5 hbZ hbZ.size
      clear hP1 hb5 HST
      obtain ⟨p0, p1, p2, p3, p4, p5⟩ := obox5 hP5
      go_wp2_with fail
      have hP6 := heap_old hP5 (.cells #[.int .i64 a, .int .i64 b9, .int .i64 0, .int .i64 0, .int .i64 0, .int .i64 0] 41)
      have hS6 := heap_new w5 (.cells #[.int .i64 a, .int .i64 b9, .int .i64 0, .int .i64 0, .int .i64 0, .int .i64 0] 41) rfl
      have hb6 : Below w.heap.size w (w5.alloc (.cells #[.int .i64 a, .int .i64 b9, .int .i64 0, .int .i64 0, .int .i64 0, .int .i64 0] 41)) := hB5.alloc hB5.size _
      have hZ6 : Below w2.heap.size w2 (w5.alloc (.cells #[.int .i64 a, .int .i64 b9, .int .i64 0, .int .i64 0, .int .i64 0, .int .i64 0] 41)) := hZ5.alloc hZ5.size _
      obtain ⟨sb, hsb⟩ : ∃ sb, w5.heap.size = sb := ⟨_, rfl⟩
      rw [hsb] at hS6 ⊢
      generalize w5.alloc (.cells #[.int .i64 a, .int .i64 b9, .int .i64 0, .int .i64 0, .int .i64 0, .int .i64 0] 41) = w6 at hP6 hS6 hb6 hZ6 ⊢
      clear hP5 hB5 hZ5 p0 p1 p2 p3 p4 p5 hsb
      refine (HPN.out w6 ⟨q3, q4⟩ (Hj.out.below hb6) (Ho.out.below hb6)).mono ?_
      rintro e w7 ⟨hb7, A7, c7, rfl, hi7⟩
      have hS7 := heap_below hS6 hb7
      have hB7 := below_then hb7 hb6 hb6.size
      have hZ7 := below_then hb7 hZ6 hZ6.size
      clear hP6 hS6 hb6 hZ6 hb7
      obtain ⟨⟨y0, y1, y2, y3, y4, y5⟩, -, y6⟩ := obox6 hS7
      have hsum : (a : Int) + (b9 : Int) = (q : Int) := by omega
      have hw9 : IntKind.i64.wrap ((a : Int) + (b9 : Int)) = (q : Int) := by rw [hsum]; exact IntWalk.i64_in _ (by omega)
      have hne : (((a : Int) + (b9 : Int)) != (q : Int)) = false := by rw [hsum]; simp
      obtain ⟨L, hL⟩ : ∃ L, pendL m js r k = L := ⟨_, rfl⟩
      rw [hL] at hi7 ⊢
      have HL := Lib.hid hL
      obtain ⟨N7, hN7⟩ : ∃ N7, L.length = N7 := ⟨_, rfl⟩
      rw [hN7] at hi7 ⊢
      have HN7 := Lib.hid hN7
      have HI7 := Lib.hid hi7
      have hN7b : N7 ≤ 1000 := by have := pend_len m js r k; rw [HL.out, HN7.out] at this; omega
      clear hL hN7 hi7 hS7
      go_wp2_with fail
      go_loopw [205] (fun iv wx => ∃ i : Nat, i ≤ k ∧ iv = .int .i64 i ∧ Below w.heap.size w wx ∧ Below w2.heap.size w2 wx ∧ Ints wx A7 N7 L) (fun iv _ => k - (intOf iv).toNat)
      case atStart => exact ⟨0, Nat.zero_le _, rfl, hB7, hZ7, HI7.out⟩
      case round =>
        obtain ⟨i, hik, rfl, hbx, hzx, hix⟩ := hrel
        rcases Nat.lt_or_ge i k with hil | hig
        · have hilj : i < js.length := by rw [HNN.out]; exact hil
          obtain ⟨b, off, rfl, hbw, hc⟩ := Hj.out.2.get hilj
          obtain ⟨b2, off2, rfl, hbw2, hc2⟩ := (HRW.out.below hzx).get hil
          have c1 : w.cell? ⟨b, off + i * 2 + 1, none⟩ = some (.int .i64 (jA js i).at_) := hc 1 (by decide)
          have d0 : wr.cell? ⟨b2, off2 + i * 3, none⟩ = some (.int .i64 (sA r i).tries) := hc2 0 (by decide)
          have d1 : wr.cell? ⟨b2, off2 + i * 3 + 1, none⟩ = some (.int .i64 (sA r i).done) := hc2 1 (by decide)
          have d2 : wr.cell? ⟨b2, off2 + i * 3 + 2, none⟩ = some (.int .i64 (sA r i).gave) := hc2 2 (by decide)
          have hsk := HSK.out i hil
          have hirl : i < r.length := by rw [HRN.out]; exact hil
          have hcv : L.contains (i : Int) = (decide ((jA js i).at_ ≤ m) && !overB (sA r i) m) := by
            rw [Bool.eq_iff_iff, List.contains_iff_mem, ← HL.out, pend_has]
            unfold pendF
            rw [List.getElem?_eq_getElem hilj, List.getElem?_eq_getElem hirl, jA_get hilj, sA_get hirl]
            simp only [over_pend hsk q3]
            exact ⟨fun h => h.2, fun h => ⟨hil, h⟩⟩
          obtain ⟨ya, hya⟩ : ∃ ya, (jA js i).at_ = ya := ⟨_, rfl⟩
          obtain ⟨⟨x1, x2, x3⟩, hx⟩ : ∃ x, sA r i = x := ⟨_, rfl⟩
          rw [hya] at c1 hsk hcv
          rw [hx] at d0 d1 d2 hsk hcv
          obtain ⟨t1, t2, hsk⟩ := hsk
          simp only at d0 d1 d2 hsk t1 t2
          have c4 := ((hbx.alloc hbx.size (.cells #[.int .i64 x1, .int .i64 x2, .int .i64 x3] 33)).cell (p := ⟨b, off + i * 2 + 1, none⟩) hbw).trans c1
          have hb4 : Below w.heap.size w (wr.alloc (.cells #[.int .i64 x1, .int .i64 x2, .int .i64 x3] 33)) := hbx.alloc hbx.size _
          have hz4 : Below w2.heap.size w2 (wr.alloc (.cells #[.int .i64 x1, .int .i64 x2, .int .i64 x3] 33)) := hzx.alloc hzx.size _
          have hi4 := hix.alloc (.cells #[.int .i64 x1, .int .i64 x2, .int .i64 x3] 33)
          have hX4 := heap_new wr (.cells #[.int .i64 x1, .int .i64 x2, .int .i64 x3] 33) rfl
          have HCN := Lib.hid (fun w h => contains_c A7 N7 c7 L (i : Int) w (by omega) h)
          clear hc hc2 hx hya hilj hirl hbx hzx hix
          go_upto_region 25 with fail
          obtain ⟨xb, hxb⟩ : ∃ xb, wr.heap.size = xb := ⟨_, rfl⟩
          rw [hxb] at hX4 ⊢
          generalize wr.alloc (.cells #[.int .i64 x1, .int .i64 x2, .int .i64 x3] 33) = w4 at hX4 hb4 hz4 hi4 c4 ⊢
          clear d0 d1 d2 c1 hbw2 hxb
          obtain ⟨⟨e0, e1, e2⟩, -, e3⟩ := obox3 hX4
          clear hX4
          rcases hsk with ⟨s1, s2, s3, s4⟩ | ⟨s1, s2, s3, s4⟩
          · subst s4
            by_cases ho : x2 ≤ m
            · by_cases ha : ya ≤ m
              · have kv : L.contains (i : Int) = false := by
                  rw [hcv]
                  unfold overB
                  rw [Bool.eq_iff_iff]
                  simp
                  try omega
                rw [kv] at HCN
                have k0 : decide ((0 : Int) ≤ x2) = true := decide_eq_true s1
                have k4 : decide ((0 : Int) ≤ -1) = false := by decide
                have k1 : decide (x2 ≤ m) = true := decide_eq_true ho
                have ka : decide (ya ≤ m) = true := decide_eq_true ha
                have k5 : (0 : Int) ≤ (i : Int) := by omega
                have k6 : (i : Int) < (k : Int) := by omega
                clear hcv kv hsum
                go_wp2
                go_quiet ((go_at_call 10; exact Calls.quiet_of_same (HCN.out _ hi4)))
                go_wp2
                go_roundw
                case rel => exact ⟨i + 1, by omega, by go_num, below_drewN hb4 _, below_drewN hz4 _, hi4⟩
                case measure => simp [intOf]; omega
              · exfalso; omega
            · by_cases ha : ya ≤ m
              · have kv : L.contains (i : Int) = true := by
                  rw [hcv]
                  unfold overB
                  rw [Bool.eq_iff_iff]
                  simp
                  try omega
                rw [kv] at HCN
                have k0 : decide ((0 : Int) ≤ x2) = true := decide_eq_true s1
                have k4 : decide ((0 : Int) ≤ -1) = false := by decide
                have k1 : decide (x2 ≤ m) = false := decide_eq_false ho
                have ka : decide (ya ≤ m) = true := decide_eq_true ha
                have k5 : (0 : Int) ≤ (i : Int) := by omega
                have k6 : (i : Int) < (k : Int) := by omega
                clear hcv kv hsum
                go_wp2
                go_quiet ((go_at_call 10; exact Calls.quiet_of_same (HCN.out _ hi4)))
                go_wp2
                go_roundw
                case rel => exact ⟨i + 1, by omega, by go_num, below_drewN hb4 _, below_drewN hz4 _, hi4⟩
                case measure => simp [intOf]; omega
              · have kv : L.contains (i : Int) = false := by
                  rw [hcv]
                  unfold overB
                  rw [Bool.eq_iff_iff]
                  simp
                  try omega
                rw [kv] at HCN
                have k0 : decide ((0 : Int) ≤ x2) = true := decide_eq_true s1
                have k4 : decide ((0 : Int) ≤ -1) = false := by decide
                have k1 : decide (x2 ≤ m) = false := decide_eq_false ho
                have ka : decide (ya ≤ m) = false := decide_eq_false ha
                have k5 : (0 : Int) ≤ (i : Int) := by omega
                have k6 : (i : Int) < (k : Int) := by omega
                clear hcv kv hsum
                go_wp2
                go_quiet ((go_at_call 10; exact Calls.quiet_of_same (HCN.out _ hi4)))
                go_wp2
                go_roundw
                case rel => exact ⟨i + 1, by omega, by go_num, below_drewN hb4 _, below_drewN hz4 _, hi4⟩
                case measure => simp [intOf]; omega
          · subst s1
            by_cases ho : x3 ≤ m
            · by_cases ha : ya ≤ m
              · have kv : L.contains (i : Int) = false := by
                  rw [hcv]
                  unfold overB
                  rw [Bool.eq_iff_iff]
                  simp
                  try omega
                rw [kv] at HCN
                have k0 : decide ((0 : Int) ≤ x3) = true := decide_eq_true s2
                have k4 : decide ((0 : Int) ≤ -1) = false := by decide
                have k1 : decide (x3 ≤ m) = true := decide_eq_true ho
                have ka : decide (ya ≤ m) = true := decide_eq_true ha
                have k5 : (0 : Int) ≤ (i : Int) := by omega
                have k6 : (i : Int) < (k : Int) := by omega
                clear hcv kv hsum
                go_wp2
                go_quiet ((go_at_call 10; exact Calls.quiet_of_same (HCN.out _ hi4)))
                go_wp2
                go_roundw
                case rel => exact ⟨i + 1, by omega, by go_num, below_drewN hb4 _, below_drewN hz4 _, hi4⟩
                case measure => simp [intOf]; omega
              · exfalso; omega
            · by_cases ha : ya ≤ m
              · have kv : L.contains (i : Int) = true := by
                  rw [hcv]
                  unfold overB
                  rw [Bool.eq_iff_iff]
                  simp
                  try omega
                rw [kv] at HCN
                have k0 : decide ((0 : Int) ≤ x3) = true := decide_eq_true s2
                have k4 : decide ((0 : Int) ≤ -1) = false := by decide
                have k1 : decide (x3 ≤ m) = false := decide_eq_false ho
                have ka : decide (ya ≤ m) = true := decide_eq_true ha
                have k5 : (0 : Int) ≤ (i : Int) := by omega
                have k6 : (i : Int) < (k : Int) := by omega
                clear hcv kv hsum
                go_wp2
                go_quiet ((go_at_call 10; exact Calls.quiet_of_same (HCN.out _ hi4)))
                go_wp2
                go_roundw
                case rel => exact ⟨i + 1, by omega, by go_num, below_drewN hb4 _, below_drewN hz4 _, hi4⟩
                case measure => simp [intOf]; omega
              · have kv : L.contains (i : Int) = false := by
                  rw [hcv]
                  unfold overB
                  rw [Bool.eq_iff_iff]
                  simp
                  try omega
                rw [kv] at HCN
                have k0 : decide ((0 : Int) ≤ x3) = true := decide_eq_true s2
                have k4 : decide ((0 : Int) ≤ -1) = false := by decide
                have k1 : decide (x3 ≤ m) = false := decide_eq_false ho
                have ka : decide (ya ≤ m) = false := decide_eq_false ha
                have k5 : (0 : Int) ≤ (i : Int) := by omega
                have k6 : (i : Int) < (k : Int) := by omega
                clear hcv kv hsum
                go_wp2
                go_quiet ((go_at_call 10; exact Calls.quiet_of_same (HCN.out _ hi4)))
                go_wp2
                go_roundw
                case rel => exact ⟨i + 1, by omega, by go_num, below_drewN hb4 _, below_drewN hz4 _, hi4⟩
                case measure => simp [intOf]; omega
        · obtain rfl : i = k := by omega
          go_wp2_with fail
          refine (sums_c _).mono ?_
          rintro e w9 ⟨rfl, hb9⟩
          have hB9 := below_then hb9 hbx hbx.size
          go_wp2
          go_ret
          exact ⟨rfl, hB9⟩
end Go.Proofs.YtlkidhfjkgppoaaDoor
