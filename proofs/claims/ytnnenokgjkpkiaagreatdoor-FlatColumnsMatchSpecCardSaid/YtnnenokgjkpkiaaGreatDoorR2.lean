
/- The walks of the reference's numbers: sizes, Plus. -/
import Derived.Test.YtnnenokgjkpkiaaGreatDoorR1
namespace Go.Proofs.YtnnenokgjkpkiaaGreatDoor
open Go.RowKit Limb
set_option maxHeartbeats 1000000 in
theorem sizes_r (l m : List Nat) (A B : Option Addr) (n c k d : Nat) (w : World) (hd : Dig w .i64 3 A n l) (hc : n ≤ c) (hm : c ≤ maxLen) (he : Dig w .i64 3 B k m) (hk : k ≤ d) (hm2 : d ≤ maxLen)
    (gl : Digs B6 l) (gm : Digs B6 m) (nl : Norm l) (nm : Norm m) :
    Calls Tryz.prog 73 #[.slice A n c, .slice B k d] w (CmpEnd w (val B6 l) (val B6 m)) := by
  have hll := hd.1
  have hml := he.1
  by_cases hne : n = k
  · subst hne
    have hne : ((n : Int) != (n : Int)) = false := by simp
    have hm' : n ≤ 9223372036854775807 := by unfold maxLen at hm; omega
    go_enter Tryz.func73, Tryz.ntmps73
    go_wp2
    go_loopw [5] (fun v wr => ∃ j : Nat, j ≤ n ∧ v = .int .i64 ((j : Int) - 1) ∧ l.drop j = m.drop j ∧ ∃ q, wr = w.drewN q) (fun v _ => (intOf v + 1).toNat)
    case atStart => exact ⟨n, Nat.le_refl _, rfl, by rw [List.drop_of_length_le (by omega), List.drop_of_length_le (by omega)], 0, rfl⟩
    case round =>
      obtain ⟨j, hj, rfl, hdr, q, rfl⟩ := hrel
      have HD := Lib.hid hdr; clear hdr
      rcases j with _ | j
      · go_wp2
        go_ret
        exact ⟨0, rfl, Cmp.eq (by have := HD.out; simp at this; rw [this]), q, rfl⟩
      · have e : ((j + 1 : Nat) : Int) - 1 = (j : Int) := by omega
        rw [e]
        obtain ⟨g, rfl, _, hc1⟩ := hd.at_ (by omega)
        obtain ⟨g', rfl, _, hc2⟩ := he.at_ (by omega)
        have hx := hc1 j (by omega)
        have hy := hc2 j (by omega)
        clear hc1 hc2
        have hlt : (j : Int) < (n : Int) := by omega
        have h0 : (0 : Int) ≤ (j : Int) := by omega
        have b1 : dg l j < 1000000 := dg_lt gl (by decide) j
        have b2 : dg m j < 1000000 := dg_lt gm (by decide) j
        by_cases hq : dg l j = dg m j
        · have hq' : (((dg l j : Nat) : Int) != ((dg m j : Nat) : Int)) = false := by simp [hq]
          have HQ := Lib.hid hq; clear hq
          go_wp2_with fail
          go_quiet (fail)
          go_wp2
          go_roundw
          case rel => exact ⟨j, by omega, rfl, drop_eq_step (by omega) (by omega) HD.out HQ.out, _, rfl⟩
          case measure => simp [intOf]
        · have hq' : (((dg l j : Nat) : Int) != ((dg m j : Nat) : Int)) = true := by simp; omega
          go_wp2_with fail
          go_quiet (fail)
          go_wp2_with fail
          go_quiet (fail)
          go_wp2
          go_ret
          refine ⟨((dg l j : Nat) : Int) - ((dg m j : Nat) : Int), by go_num, ?_, _, dN3 _ _ _ _⟩
          rcases Nat.lt_or_ge (dg l j) (dg m j) with hq2 | hq2
          · have := val_lt_of_digit gl (by omega) (by omega) HD.out hq2
            unfold Cmp; omega
          · have := val_lt_of_digit gm (by omega) (by omega) HD.out.symm (by unfold dg at *; omega)
            unfold Cmp; omega
  · have hne' : ((n : Int) != (k : Int)) = true := by simp; omega
    have H := Lib.hid (cmp_len (b := B6) (by decide) gl gm nl nm (by omega) (by omega) (by omega))
    have hm' : n ≤ 9223372036854775807 := by unfold maxLen at hm; omega
    have hm2' : k ≤ 9223372036854775807 := by unfold maxLen at hm2; omega
    subst hll hml
    go_enter Tryz.func73, Tryz.ntmps73
    go_wp2
    go_ret
    exact ⟨_, rfl, H.out, 0, rfl⟩
theorem sum_rel6 {l m os : List Nat} {j cy : Nat} (hos : os.length = j) (hval : val B6 os + B6 ^ j * cy = val B6 (l.take j) + val B6 (m.take j)) (gos : Digs B6 os) (hcy : cy ≤ 1) (gl : Digs B6 l) (gm : Digs B6 m) :
    Digs B6 (os ++ [(cy + dg l j + dg m j) % B6]) ∧ (cy + dg l j + dg m j) / B6 ≤ 1 ∧ val B6 (os ++ [(cy + dg l j + dg m j) % B6]) + B6 ^ (j + 1) * ((cy + dg l j + dg m j) / B6) = val B6 (l.take (j + 1)) + val B6 (m.take (j + 1)) := by
  subst hos
  have b1 := dg_lt gl (by decide) os.length
  have b2 := dg_lt gm (by decide) os.length
  refine ⟨gos.snoc (Nat.mod_lt _ (by decide)), carry_le hcy b1 b2, ?_⟩
  rw [sum_step hval, val_take_succ, val_take_succ]
  rfl
theorem plus_end {l m os : List Nat} {N cy : Nat} (hl : l.length ≤ N) (hm : m.length ≤ N) (gl : Digs B6 l) (gm : Digs B6 m) (h : val B6 os + B6 ^ (N + 1) * cy = val B6 (l.take (N + 1)) + val B6 (m.take (N + 1))) : val B6 os = val B6 l + val B6 m := by
  rw [List.take_of_length_le (by omega), List.take_of_length_le (by omega)] at h
  have h1 := val_lt gl
  have h2 := val_lt gm
  have h3 : B6 ^ l.length ≤ B6 ^ N := Nat.pow_le_pow_right (by decide) hl
  have h4 : B6 ^ m.length ≤ B6 ^ N := Nat.pow_le_pow_right (by decide) hm
  have h5 : B6 ^ (N + 1) = B6 ^ N * B6 := Nat.pow_succ ..
  rcases Nat.eq_zero_or_pos cy with h6 | h6
  · subst h6; simpa using h
  · have h7 : B6 ^ (N + 1) * 1 ≤ B6 ^ (N + 1) * cy := Nat.mul_le_mul_left _ h6
    rw [h5] at h7 h
    generalize B6 ^ N = P at *
    have h8 : P * B6 = 1000000 * P := by rw [Nat.mul_comm]; rfl
    omega
theorem trim_ne {s : Bool} {os : List Nat} {kk n : Nat} (h : trim os = os.take kk) (hn : os.length = n + 1) : (s && decide (0 < kk)) = true → trim os ≠ [] := by
  intro h1 h2
  rw [h] at h2
  have h3 := congrArg List.length h2
  rw [List.length_take] at h3
  have h4 : 0 < kk := by
    cases s with
    | false => simp at h1
    | true => simpa using h1
  rw [hn, List.length_nil] at h3
  omega
theorem plus_sg {s : Bool} {os : List Nat} {kk a b : Nat} (h : trim os = os.take kk) (hv : val B6 os = a + b) : sg s a + sg s b = sg (s && decide (0 < kk)) (val B6 (trim os)) := by
  rw [val_trim, hv]
  by_cases h0 : 0 < kk
  · rw [decide_eq_true h0, Bool.and_true]
    unfold sg
    split <;> omega
  · have h1 : val B6 (trim os) = 0 := by rw [h, show kk = 0 by omega]; rfl
    rw [val_trim, hv] at h1
    rw [decide_eq_false h0, Bool.and_false]
    unfold sg
    split <;> simp <;> omega
set_option maxHeartbeats 4000000 in
set_option maxRecDepth 100000 in
theorem plus_same_lt (w : World) {s : Bool} {A B : Option Addr} {n c k d : Nat} {x y : Int} (ha : Big .i64 3 B6 w s A n c x) (hb : Big .i64 3 B6 w s B k d y) (sx : Small x) (sy : Small y) (hnk : n < k) :
    Calls Tryz.prog 36 #[.agg #[.bool s, .slice A n c], .agg #[.bool s, .slice B k d]] w (Makes .i64 3 B6 w (x + y)) := by
  obtain ⟨l, hd, hnc, hcm, gl, nl, hs, rfl⟩ := ha
  obtain ⟨m, he, hkd, hdm, gm, nm, ht, rfl⟩ := hb
  obtain ⟨i0, hi, hz0, hz1, hz2⟩ := info_parts Tryz.info3
  have hl := hd.1
  have hm := he.1
  have h1 := small_len6 nl sx
  have h2 := small_len6 nm sy
  have HL := Lib.hid hl; have HM := Lib.hid hm
  rw [hl] at h1
  rw [hm] at h2
  clear hl hm
  have hN2 : k ≤ 200 := by omega
  go_enter Tryz.func36, Tryz.ntmps36
  go_wp2_with fail
  generalize hw1 : (((w.alloc (Obj.cells #[Value.bool s, Value.slice A n c] 73)).alloc (Obj.cells #[Value.bool s, Value.slice B k d] 73)).alloc (Obj.cells #[Value.bool false, Value.slice none 0 0] 73)).alloc (Obj.cells #[Value.bool s, Value.slice none 0 0] 73) = w1
  obtain ⟨hX, hY, hR, hO, hB⟩ := boxes4 _ _ _ _ _ _ _ _ _ _ _ _ _ w1 hw1
  clear hw1
  go_loopw [10, 71] (fun cv iv wr => ∃ (j cy : Nat) (os : List Nat) (A2 : Option Addr) (c2 : Nat), j ≤ k + 1 ∧ cv = .int .i64 cy ∧ iv = .int .i64 j ∧ os.length = j ∧ cy ≤ 1 ∧ Digs B6 os ∧ val B6 os + B6 ^ j * cy = val B6 (l.take j) + val B6 (m.take j) ∧
      wr.heap[w.heap.size]? = some (.cells #[.bool s, .slice A n c] 73 (0, 0)) ∧ wr.heap[w.heap.size + 1]? = some (.cells #[.bool s, .slice B k d] 73 (0, 0)) ∧ wr.heap[w.heap.size + 1 + 1]? = some (.cells #[.bool false, .slice none 0 0] 73 (0, 0)) ∧
      wr.heap[w.heap.size + 1 + 1 + 1]? = some (.cells #[.bool s, .slice A2 j c2] 73 (0, 0)) ∧ wr.ownsRow w.heap.size 3 1 (.slice A2 j c2) j (digV .i64 os) ∧ Below w.heap.size w wr) (fun _ iv _ => k + 1 - (intOf iv).toNat)
  case atStart => exact ⟨0, 0, [], none, 0, by omega, rfl, rfl, rfl, by omega, Digs.nil _, by simp [val], hX, hY, hR, hO, World.ownsRow_nil _ _ _ _, hB⟩
  case round =>
    clear hX hY hR hO hB w1
    obtain ⟨j, cy, os, A2, c2, hj, rfl, rfl, hos, hcy, gos, hval, hX, hY, hR, hO, hown, hB⟩ := hrel
    have HV := Lib.hid hval; have HO := Lib.hid hos; clear hval hos
    obtain ⟨x0, x1, -, -, -⟩ := box2 hX
    obtain ⟨y0, y1, -, -, -⟩ := box2 hY
    obtain ⟨r0, r1, r2, r3, r4⟩ := box2 hR
    obtain ⟨o0, o1, o2, o3, o4⟩ := box2 hO
    have hz := hB.size
    by_cases hjN : j < k + 1
    · have b1 := dg_lt gl (by decide) j
      have b2 := dg_lt gm (by decide) j
      unfold B6 at b1 b2
      have hdw := hd.below hB
      have hew := he.below hB
      have hdr : ∀ x, Calls Tryz.prog 74 #[.slice A n c, .int .i64 j] (wr.drewN x) fun e w' => e = .returned (.int .i64 (dg l j : Nat)) ∧ w' = wr.drewN x := fun x => (digit_c l A n c j (wr.drewN x) hdw (by omega)).mono fun _ _ h => ⟨h.2, h.1.symm⟩
      have her : ∀ x, Calls Tryz.prog 74 #[.slice B k d, .int .i64 j] (wr.drewN x) fun e w' => e = .returned (.int .i64 (dg m j : Nat)) ∧ w' = wr.drewN x := fun x => (digit_c m B k d j (wr.drewN x) hew (by omega)).mono fun _ _ h => ⟨h.2, h.1.symm⟩
      go_wp2_with fail
      go_quiet (first | (go_at_call_of 74 (Value.slice A n c); exact Calls.quiet_of_same (hdr _)) | (go_at_call_of 74 (Value.slice B k d); exact Calls.quiet_of_same (her _)))
      clear hdr her hdw hew x0 x1 y0 y1 r0 r1 r2 r3 r4 o0 o1 o2 o3 o4
      have hXd : (wr.drewN nq).heap[w.heap.size]? = some (.cells #[.bool s, .slice A n c] 73 (0, 0)) := by exact hX
      have hYd : (wr.drewN nq).heap[w.heap.size + 1]? = some (.cells #[.bool s, .slice B k d] 73 (0, 0)) := by exact hY
      have hRd : (wr.drewN nq).heap[w.heap.size + 1 + 1]? = some (.cells #[.bool false, .slice none 0 0] 73 (0, 0)) := by exact hR
      have hOd : (wr.drewN nq).heap[w.heap.size + 1 + 1 + 1]? = some (.cells #[.bool s, .slice A2 j c2] 73 (0, 0)) := by exact hO
      have hownd : (wr.drewN nq).ownsRow w.heap.size 3 1 (.slice A2 j c2) j (digV .i64 os) := by exact hown
      have hBd : Below w.heap.size w (wr.drewN nq) := below_drewN hB nq
      generalize wr.drewN nq = wd at *
      clear hX hY hR hO hown hB hz
      have hzd := hBd.size
      obtain ⟨o0, o1, o2, o3, o4⟩ := box2 hOd
      have HSR := Lib.hid (sum_rel6 HO.out HV.out gos hcy gl gm)
      have q1 : (0 : Int) ≤ ((dg l j : Nat) + (dg m j : Nat) + (cy : Int)) := by omega
      have q2 : ((dg l j : Nat) + (dg m j : Nat) + (cy : Int)) ≤ 3000000 := by omega
      go_wp2_with (first
        | (at_builtin; refine wpList_push_own rfl _ _ 71 rfl w.heap.size 3 i0 (.int .i64 0) 8 Tryz.underlying71 hi hz0 hz1 hz2 rfl (.slice A2 j c2) j (digV .i64 os) rfl hownd (.int .i64 (((dg l j : Nat) + (dg m j : Nat) + (cy : Int)) % 1000000)) rfl rfl (by unfold maxLen; omega) (by omega) hzd ?_; intro A3 c3 w2 hown2 hg2; have hX2 := grown_heap hXd hownd hg2 (by decide); have hY2 := grown_heap hYd hownd hg2 (by decide); have hR2 := grown_heap hRd hownd hg2 (by decide); have hO2 := grown_heap hOd hownd hg2 (by decide); have hB2 := hBd.grown hg2 hzd (own_ge hownd); clear hg2; have hbx := box2 hO2; obtain ⟨z0, z1, z2, z3, z4⟩ := hbx))
      go_roundw
      case rel =>
        obtain ⟨g1, g2, g3⟩ := HSR.out
        have hos := HO.out
        have e1 : (((dg l j : Nat) + (dg m j : Nat) + (cy : Int)) % 1000000) = (((cy + dg l j + dg m j) % B6 : Nat) : Int) := by unfold B6; omega
        have e2 : (((dg l j : Nat) + (dg m j : Nat) + (cy : Int)) / 1000000) = (((cy + dg l j + dg m j) / B6 : Nat) : Int) := by unfold B6; omega
        rw [e1, ← digV_snoc] at hown2
        exact ⟨j + 1, (cy + dg l j + dg m j) / B6, os ++ [(cy + dg l j + dg m j) % B6], A3, c3, by omega, congrArg _ e2, by go_num, by simp [hos], g2, g1, g3,
          heap_far hX2 (by dsimp only; omega) _, heap_far hY2 (by dsimp only; omega) _, heap_far hR2 (by dsimp only; omega) _, by have := heap_set hO2 1 (.slice A3 (j + 1) c3); simpa using this, own_away hown2 hO2 (by decide) _, hB2.setCell (by dsimp only; omega) _⟩
      case measure => simp [intOf]; omega
    · obtain rfl : j = k + 1 := by omega
      go_wp2_with fail
      refine (trimmed_r os s A2 (k + 1) c2 _ (Dig.of_own hown) (own_cap hown).1 (own_cap hown).2).mono ?_
      rintro e w2 ⟨hb2, kk, hkk, htk, rfl⟩
      have hR2 := heap_below hR hb2
      obtain ⟨g0, g1, g2, g3, g4⟩ := box2 hR2
      go_wp2
      have hd0 := (Dig.of_own hown).below hb2
      refine bodyPost_ret (v := .agg #[.bool (s && decide (0 < kk)), .slice A2 kk c2]) (by simp [results, Tryz.results36, go_sem, g0, g1]) rfl ⟨_, _, _, _, rfl, Big.box2 (K := .i64) ⟨trim os, htk ▸ hd0.take hkk, ?_, (own_cap hown).2, digs_trim gos, norm_trim _, ?_, ?_⟩ hR2 (by decide) _ _, ((below_then hb2 hB hz).setCell (by dsimp only; omega) _).setCell (by dsimp only; omega) _⟩
      · have := (own_cap hown).1; omega
      · exact trim_ne htk HO.out
      · exact plus_sg htk (plus_end (by rw [HL.out]; omega) (by rw [HM.out]; omega) gl gm HV.out)
set_option maxHeartbeats 4000000 in
set_option maxRecDepth 100000 in
theorem plus_same_ge (w : World) {s : Bool} {A B : Option Addr} {n c k d : Nat} {x y : Int} (ha : Big .i64 3 B6 w s A n c x) (hb : Big .i64 3 B6 w s B k d y) (sx : Small x) (sy : Small y) (hnk : ¬ n < k) :
    Calls Tryz.prog 36 #[.agg #[.bool s, .slice A n c], .agg #[.bool s, .slice B k d]] w (Makes .i64 3 B6 w (x + y)) := by
  obtain ⟨l, hd, hnc, hcm, gl, nl, hs, rfl⟩ := ha
  obtain ⟨m, he, hkd, hdm, gm, nm, ht, rfl⟩ := hb
  obtain ⟨i0, hi, hz0, hz1, hz2⟩ := info_parts Tryz.info3
  have hl := hd.1
  have hm := he.1
  have h1 := small_len6 nl sx
  have h2 := small_len6 nm sy
  have HL := Lib.hid hl; have HM := Lib.hid hm
  rw [hl] at h1
  rw [hm] at h2
  clear hl hm
  have hN2 : n ≤ 200 := by omega
  go_enter Tryz.func36, Tryz.ntmps36
  go_wp2_with fail
  generalize hw1 : (((w.alloc (Obj.cells #[Value.bool s, Value.slice A n c] 73)).alloc (Obj.cells #[Value.bool s, Value.slice B k d] 73)).alloc (Obj.cells #[Value.bool false, Value.slice none 0 0] 73)).alloc (Obj.cells #[Value.bool s, Value.slice none 0 0] 73) = w1
  obtain ⟨hX, hY, hR, hO, hB⟩ := boxes4 _ _ _ _ _ _ _ _ _ _ _ _ _ w1 hw1
  clear hw1
  go_loopw [10, 71] (fun cv iv wr => ∃ (j cy : Nat) (os : List Nat) (A2 : Option Addr) (c2 : Nat), j ≤ n + 1 ∧ cv = .int .i64 cy ∧ iv = .int .i64 j ∧ os.length = j ∧ cy ≤ 1 ∧ Digs B6 os ∧ val B6 os + B6 ^ j * cy = val B6 (l.take j) + val B6 (m.take j) ∧
      wr.heap[w.heap.size]? = some (.cells #[.bool s, .slice A n c] 73 (0, 0)) ∧ wr.heap[w.heap.size + 1]? = some (.cells #[.bool s, .slice B k d] 73 (0, 0)) ∧ wr.heap[w.heap.size + 1 + 1]? = some (.cells #[.bool false, .slice none 0 0] 73 (0, 0)) ∧
      wr.heap[w.heap.size + 1 + 1 + 1]? = some (.cells #[.bool s, .slice A2 j c2] 73 (0, 0)) ∧ wr.ownsRow w.heap.size 3 1 (.slice A2 j c2) j (digV .i64 os) ∧ Below w.heap.size w wr) (fun _ iv _ => n + 1 - (intOf iv).toNat)
  case atStart => exact ⟨0, 0, [], none, 0, by omega, rfl, rfl, rfl, by omega, Digs.nil _, by simp [val], hX, hY, hR, hO, World.ownsRow_nil _ _ _ _, hB⟩
  case round =>
    clear hX hY hR hO hB w1
    obtain ⟨j, cy, os, A2, c2, hj, rfl, rfl, hos, hcy, gos, hval, hX, hY, hR, hO, hown, hB⟩ := hrel
    have HV := Lib.hid hval; have HO := Lib.hid hos; clear hval hos
    obtain ⟨x0, x1, -, -, -⟩ := box2 hX
    obtain ⟨y0, y1, -, -, -⟩ := box2 hY
    obtain ⟨r0, r1, r2, r3, r4⟩ := box2 hR
    obtain ⟨o0, o1, o2, o3, o4⟩ := box2 hO
    have hz := hB.size
    by_cases hjN : j < n + 1
    · have b1 := dg_lt gl (by decide) j
      have b2 := dg_lt gm (by decide) j
      unfold B6 at b1 b2
      have hdw := hd.below hB
      have hew := he.below hB
      have hdr : ∀ x, Calls Tryz.prog 74 #[.slice A n c, .int .i64 j] (wr.drewN x) fun e w' => e = .returned (.int .i64 (dg l j : Nat)) ∧ w' = wr.drewN x := fun x => (digit_c l A n c j (wr.drewN x) hdw (by omega)).mono fun _ _ h => ⟨h.2, h.1.symm⟩
      have her : ∀ x, Calls Tryz.prog 74 #[.slice B k d, .int .i64 j] (wr.drewN x) fun e w' => e = .returned (.int .i64 (dg m j : Nat)) ∧ w' = wr.drewN x := fun x => (digit_c m B k d j (wr.drewN x) hew (by omega)).mono fun _ _ h => ⟨h.2, h.1.symm⟩
      go_wp2_with fail
      go_quiet (first | (go_at_call_of 74 (Value.slice A n c); exact Calls.quiet_of_same (hdr _)) | (go_at_call_of 74 (Value.slice B k d); exact Calls.quiet_of_same (her _)))
      clear hdr her hdw hew x0 x1 y0 y1 r0 r1 r2 r3 r4 o0 o1 o2 o3 o4
      have hXd : (wr.drewN nq).heap[w.heap.size]? = some (.cells #[.bool s, .slice A n c] 73 (0, 0)) := by exact hX
      have hYd : (wr.drewN nq).heap[w.heap.size + 1]? = some (.cells #[.bool s, .slice B k d] 73 (0, 0)) := by exact hY
      have hRd : (wr.drewN nq).heap[w.heap.size + 1 + 1]? = some (.cells #[.bool false, .slice none 0 0] 73 (0, 0)) := by exact hR
      have hOd : (wr.drewN nq).heap[w.heap.size + 1 + 1 + 1]? = some (.cells #[.bool s, .slice A2 j c2] 73 (0, 0)) := by exact hO
      have hownd : (wr.drewN nq).ownsRow w.heap.size 3 1 (.slice A2 j c2) j (digV .i64 os) := by exact hown
      have hBd : Below w.heap.size w (wr.drewN nq) := below_drewN hB nq
      generalize wr.drewN nq = wd at *
      clear hX hY hR hO hown hB hz
      have hzd := hBd.size
      obtain ⟨o0, o1, o2, o3, o4⟩ := box2 hOd
      have HSR := Lib.hid (sum_rel6 HO.out HV.out gos hcy gl gm)
      have q1 : (0 : Int) ≤ ((dg l j : Nat) + (dg m j : Nat) + (cy : Int)) := by omega
      have q2 : ((dg l j : Nat) + (dg m j : Nat) + (cy : Int)) ≤ 3000000 := by omega
      go_wp2_with (first
        | (at_builtin; refine wpList_push_own rfl _ _ 71 rfl w.heap.size 3 i0 (.int .i64 0) 8 Tryz.underlying71 hi hz0 hz1 hz2 rfl (.slice A2 j c2) j (digV .i64 os) rfl hownd (.int .i64 (((dg l j : Nat) + (dg m j : Nat) + (cy : Int)) % 1000000)) rfl rfl (by unfold maxLen; omega) (by omega) hzd ?_; intro A3 c3 w2 hown2 hg2; have hX2 := grown_heap hXd hownd hg2 (by decide); have hY2 := grown_heap hYd hownd hg2 (by decide); have hR2 := grown_heap hRd hownd hg2 (by decide); have hO2 := grown_heap hOd hownd hg2 (by decide); have hB2 := hBd.grown hg2 hzd (own_ge hownd); clear hg2; have hbx := box2 hO2; obtain ⟨z0, z1, z2, z3, z4⟩ := hbx))
      go_roundw
      case rel =>
        obtain ⟨g1, g2, g3⟩ := HSR.out
        have hos := HO.out
        have e1 : (((dg l j : Nat) + (dg m j : Nat) + (cy : Int)) % 1000000) = (((cy + dg l j + dg m j) % B6 : Nat) : Int) := by unfold B6; omega
        have e2 : (((dg l j : Nat) + (dg m j : Nat) + (cy : Int)) / 1000000) = (((cy + dg l j + dg m j) / B6 : Nat) : Int) := by unfold B6; omega
        rw [e1, ← digV_snoc] at hown2
        exact ⟨j + 1, (cy + dg l j + dg m j) / B6, os ++ [(cy + dg l j + dg m j) % B6], A3, c3, by omega, congrArg _ e2, by go_num, by simp [hos], g2, g1, g3,
          heap_far hX2 (by dsimp only; omega) _, heap_far hY2 (by dsimp only; omega) _, heap_far hR2 (by dsimp only; omega) _, by have := heap_set hO2 1 (.slice A3 (j + 1) c3); simpa using this, own_away hown2 hO2 (by decide) _, hB2.setCell (by dsimp only; omega) _⟩
      case measure => simp [intOf]; omega
    · obtain rfl : j = n + 1 := by omega
      go_wp2_with fail
      refine (trimmed_r os s A2 (n + 1) c2 _ (Dig.of_own hown) (own_cap hown).1 (own_cap hown).2).mono ?_
      rintro e w2 ⟨hb2, kk, hkk, htk, rfl⟩
      have hR2 := heap_below hR hb2
      obtain ⟨g0, g1, g2, g3, g4⟩ := box2 hR2
      go_wp2
      have hd0 := (Dig.of_own hown).below hb2
      refine bodyPost_ret (v := .agg #[.bool (s && decide (0 < kk)), .slice A2 kk c2]) (by simp [results, Tryz.results36, go_sem, g0, g1]) rfl ⟨_, _, _, _, rfl, Big.box2 (K := .i64) ⟨trim os, htk ▸ hd0.take hkk, ?_, (own_cap hown).2, digs_trim gos, norm_trim _, ?_, ?_⟩ hR2 (by decide) _ _, ((below_then hb2 hB hz).setCell (by dsimp only; omega) _).setCell (by dsimp only; omega) _⟩
      · have := (own_cap hown).1; omega
      · exact trim_ne htk HO.out
      · exact plus_sg htk (plus_end (by rw [HL.out]; omega) (by rw [HM.out]; omega) gl gm HV.out)
theorem plus_same_r (w : World) {s : Bool} {A B : Option Addr} {n c k d : Nat} {x y : Int} (ha : Big .i64 3 B6 w s A n c x) (hb : Big .i64 3 B6 w s B k d y) (sx : Small x) (sy : Small y) :
    Calls Tryz.prog 36 #[.agg #[.bool s, .slice A n c], .agg #[.bool s, .slice B k d]] w (Makes .i64 3 B6 w (x + y)) := by
  by_cases hnk : n < k
  · exact plus_same_lt w ha hb sx sy hnk
  · exact plus_same_ge w ha hb sx sy hnk
end Go.Proofs.YtnnenokgjkpkiaaGreatDoor
