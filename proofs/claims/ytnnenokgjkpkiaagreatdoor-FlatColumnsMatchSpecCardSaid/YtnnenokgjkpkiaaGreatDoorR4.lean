/- The walks of the reference's numbers: Plus at two signs. The walk of the reference's numbers: Times. -/
import Derived.Test.YtnnenokgjkpkiaaGreatDoorR2
import Derived.RegionTactic
import Derived.BigRegion
import Derived.Deep.OwnRows
import Derived.Deep.DeepCutAuto
-- merged: R3 R4
namespace Go.Proofs.YtnnenokgjkpkiaaGreatDoor
open Go.RowKit Limb
theorem diff_rel6 {l m os : List Nat} {j br : Nat} (hos : os.length = j) (hval : val B6 (l.take j) + B6 ^ j * br = val B6 os + val B6 (m.take j)) (gos : Digs B6 os) (hbr : br ≤ 1) (gl : Digs B6 l) (gm : Digs B6 m) :
    Digs B6 (os ++ [dig B6 br (dg l j) (dg m j)]) ∧ val B6 (l.take (j + 1)) + B6 ^ (j + 1) * bor br (dg l j) (dg m j) = val B6 (os ++ [dig B6 br (dg l j) (dg m j)]) + val B6 (m.take (j + 1)) := by
  subst hos
  have b1 := dg_lt gl (by decide) os.length
  have b2 := dg_lt gm (by decide) os.length
  refine ⟨gos.snoc (dig_lt hbr b1 b2), ?_⟩
  rw [val_take_succ, val_take_succ]
  exact diff_step hval hbr b1 b2
theorem diff_end6 {l m os : List Nat} {n br : Nat} (hl : l.length ≤ n) (hos : os.length = n) (hle : val B6 m ≤ val B6 l) (gos : Digs B6 os) (gm : Digs B6 m) (nm : Norm m) (gl : Digs B6 l) (h : val B6 (l.take n) + B6 ^ n * br = val B6 os + val B6 (m.take n)) : val B6 os = val B6 l - val B6 m := by
  have hml : m.length ≤ n := by
    have h1 : val B6 m < B6 ^ n := by
      have h2 := val_lt gl
      have h3 : B6 ^ l.length ≤ B6 ^ n := Nat.pow_le_pow_right (by decide) hl
      omega
    exact len_le (by decide) nm h1
  have _ := gm
  rw [List.take_of_length_le hl, List.take_of_length_le hml, ← hos] at h
  exact diff_end h gos hle
theorem trim_ne0 {s : Bool} {os : List Nat} {kk n : Nat} (h : trim os = os.take kk) (hk : kk ≤ n) (hn : os.length = n) : (s && decide (0 < kk)) = true → trim os ≠ [] := by
  intro h1 h2
  rw [h] at h2
  have h3 := congrArg List.length h2
  rw [List.length_take] at h3
  have h4 : 0 < kk := by
    cases s with
    | false => simp at h1
    | true => simpa using h1
  rw [hn, List.length_nil] at h3
  omega
theorem diff_sg_keep {s t : Bool} {os : List Nat} {kk a b : Nat} (hst : s ≠ t) (h : trim os = os.take kk) (hv : val B6 os = a - b) (hle : b ≤ a) : sg s a + sg t b = sg (s && decide (0 < kk)) (val B6 (trim os)) := by
  rw [val_trim, hv]
  by_cases h0 : 0 < kk
  · rw [decide_eq_true h0, Bool.and_true]
    unfold sg
    cases s <;> cases t <;> simp at hst ⊢ <;> omega
  · have h1 : val B6 (trim os) = 0 := by rw [h, show kk = 0 by omega]; rfl
    rw [val_trim, hv] at h1
    rw [decide_eq_false h0, Bool.and_false]
    unfold sg
    cases s <;> cases t <;> simp at hst ⊢ <;> omega
theorem diff_sg_swap {s t : Bool} {os : List Nat} {kk a b : Nat} (hst : s ≠ t) (h : trim os = os.take kk) (hv : val B6 os = b - a) (hle : a ≤ b) : sg s a + sg t b = sg (t && decide (0 < kk)) (val B6 (trim os)) := by
  rw [Int.add_comm]
  exact diff_sg_keep (fun e => hst e.symm) h hv hle
set_option maxHeartbeats 4000000 in
set_option maxRecDepth 100000 in
theorem plus_diff_swap (w : World) {s t : Bool} {A B : Option Addr} {n c k d : Nat} {x y : Int} (ha : Big .i64 3 B6 w s A n c x) (hb : Big .i64 3 B6 w t B k d y) (sx : Small x) (sy : Small y) (hst : s ≠ t) (hlt : x.natAbs < y.natAbs) :
    Calls Tryz.prog 36 #[.agg #[.bool s, .slice A n c], .agg #[.bool t, .slice B k d]] w (Makes .i64 3 B6 w (x + y)) := by
  obtain ⟨l, hd, hnc, hcm, gl, nl, hs, rfl⟩ := ha
  obtain ⟨m, he, hkd, hdm, gm, nm, ht, rfl⟩ := hb
  obtain ⟨i0, hi, hz0, hz1, hz2⟩ := info_parts Tryz.info3
  have hl := hd.1
  have hm := he.1
  have h1 := small_len6 nl sx
  have h2 := small_len6 nm sy
  have HL := Lib.hid hl; have HM := Lib.hid hm
  rw [hl] at h1
  rw [hm] at h2
  rw [sg_natAbs, sg_natAbs] at hlt
  have HLT := Lib.hid hlt; have HST := Lib.hid hst
  have hst' : (s != t) = true := by simpa using hst
  have hst2 : (s == t) = false := by simpa using hst
  clear hl hm hlt hst
  go_enter Tryz.func36, Tryz.ntmps36
  go_wp2_with fail
  generalize hw1 : ((w.alloc (Obj.cells #[Value.bool s, Value.slice A n c] 73)).alloc (Obj.cells #[Value.bool t, Value.slice B k d] 73)).alloc (Obj.cells #[Value.bool false, Value.slice none 0 0] 73) = w1
  obtain ⟨hX, hY, hR, hB⟩ := boxes3 _ _ _ _ _ _ _ _ _ _ w1 hw1
  have hz1 : w1.heap.size = w.heap.size + 1 + 1 + 1 := by rw [← hw1]; simp
  clear hw1
  obtain ⟨x0, x1, x2, x3, x4⟩ := box2 hX
  obtain ⟨y0, y1, y2, y3, y4⟩ := box2 hY
  refine (sizes_r l m A B n c k d _ (hd.below hB) hnc hcm (he.below hB) hkd hdm gl gm nl nm).mono ?_
  rintro e w2 ⟨r, rfl, hr, q, rfl⟩
  have hr0 : r < 0 := by have := HLT.out; have := hr.1; omega
  clear hr
  have hXd : (w1.drewN q).heap[w.heap.size]? = some (.cells #[.bool s, .slice A n c] 73 (0, 0)) := by exact hX
  have hYd : (w1.drewN q).heap[w.heap.size + 1]? = some (.cells #[.bool t, .slice B k d] 73 (0, 0)) := by exact hY
  have hRd : (w1.drewN q).heap[w.heap.size + 1 + 1]? = some (.cells #[.bool false, .slice none 0 0] 73 (0, 0)) := by exact hR
  have hBd : Below w.heap.size w (w1.drewN q) := below_drewN hB q
  have hzd : (w1.drewN q).heap.size = w.heap.size + 1 + 1 + 1 := by exact hz1
  generalize w1.drewN q = wd at *
  clear hX hY hR hB hz1 x0 x1 x2 x3 x4 y0 y1 y2 y3 y4
  obtain ⟨x0, x1, x2, x3, x4⟩ := box2 hXd
  obtain ⟨y0, y1, y2, y3, y4⟩ := box2 hYd
  go_wp2_with fail
  have hX : (((((wd.setCell ⟨w.heap.size, 0, none⟩ (.bool t)).setCell ⟨w.heap.size, 1, none⟩ (.slice B k d)).setCell ⟨w.heap.size + 1, 0, none⟩ (.bool s)).setCell ⟨w.heap.size + 1, 1, none⟩ (.slice A n c)).alloc (.cells #[.bool t, .slice none 0 0] 73)).heap[w.heap.size]? = some (.cells #[.bool t, .slice B k d] 73 (0, 0)) := by
    have := heap_old (heap_far (heap_far (heap_set (heap_set hXd 0 (.bool t)) 1 (.slice B k d)) (p := ⟨w.heap.size + 1, 0, none⟩) (by dsimp only; omega) (.bool s)) (p := ⟨w.heap.size + 1, 1, none⟩) (by dsimp only; omega) (.slice A n c)) (.cells #[.bool t, .slice none 0 0] 73)
    simpa using this
  have hY : (((((wd.setCell ⟨w.heap.size, 0, none⟩ (.bool t)).setCell ⟨w.heap.size, 1, none⟩ (.slice B k d)).setCell ⟨w.heap.size + 1, 0, none⟩ (.bool s)).setCell ⟨w.heap.size + 1, 1, none⟩ (.slice A n c)).alloc (.cells #[.bool t, .slice none 0 0] 73)).heap[w.heap.size + 1]? = some (.cells #[.bool s, .slice A n c] 73 (0, 0)) := by
    have := heap_old (heap_set (heap_set (heap_far (heap_far hYd (p := ⟨w.heap.size, 0, none⟩) (by dsimp only; omega) (.bool t)) (p := ⟨w.heap.size, 1, none⟩) (by dsimp only; omega) (.slice B k d)) 0 (.bool s)) 1 (.slice A n c)) (.cells #[.bool t, .slice none 0 0] 73)
    simpa using this
  have hR : (((((wd.setCell ⟨w.heap.size, 0, none⟩ (.bool t)).setCell ⟨w.heap.size, 1, none⟩ (.slice B k d)).setCell ⟨w.heap.size + 1, 0, none⟩ (.bool s)).setCell ⟨w.heap.size + 1, 1, none⟩ (.slice A n c)).alloc (.cells #[.bool t, .slice none 0 0] 73)).heap[w.heap.size + 1 + 1]? = some (.cells #[.bool false, .slice none 0 0] 73 (0, 0)) :=
    heap_old (heap_far (heap_far (heap_far (heap_far hRd (p := ⟨w.heap.size, 0, none⟩) (by dsimp only; omega) (.bool t)) (p := ⟨w.heap.size, 1, none⟩) (by dsimp only; omega) (.slice B k d)) (p := ⟨w.heap.size + 1, 0, none⟩) (by dsimp only; omega) (.bool s)) (p := ⟨w.heap.size + 1, 1, none⟩) (by dsimp only; omega) (.slice A n c)) (.cells #[.bool t, .slice none 0 0] 73)
  have hO : (((((wd.setCell ⟨w.heap.size, 0, none⟩ (.bool t)).setCell ⟨w.heap.size, 1, none⟩ (.slice B k d)).setCell ⟨w.heap.size + 1, 0, none⟩ (.bool s)).setCell ⟨w.heap.size + 1, 1, none⟩ (.slice A n c)).alloc (.cells #[.bool t, .slice none 0 0] 73)).heap[w.heap.size + 1 + 1 + 1]? = some (.cells #[.bool t, .slice none 0 0] 73 (0, 0)) := heap_new _ _ (by simp [hzd])
  have hB : Below w.heap.size w (((((wd.setCell ⟨w.heap.size, 0, none⟩ (.bool t)).setCell ⟨w.heap.size, 1, none⟩ (.slice B k d)).setCell ⟨w.heap.size + 1, 0, none⟩ (.bool s)).setCell ⟨w.heap.size + 1, 1, none⟩ (.slice A n c)).alloc (.cells #[.bool t, .slice none 0 0] 73)) := ((((hBd.setCell (p := ⟨w.heap.size, 0, none⟩) (Nat.le_refl _) _).setCell (p := ⟨w.heap.size, 1, none⟩) (Nat.le_refl _) _).setCell (p := ⟨w.heap.size + 1, 0, none⟩) (by dsimp only; omega) _).setCell (p := ⟨w.heap.size + 1, 1, none⟩) (by dsimp only; omega) _).alloc (by simp [hzd]; omega) _
  generalize ((((wd.setCell ⟨w.heap.size, 0, none⟩ (.bool t)).setCell ⟨w.heap.size, 1, none⟩ (.slice B k d)).setCell ⟨w.heap.size + 1, 0, none⟩ (.bool s)).setCell ⟨w.heap.size + 1, 1, none⟩ (.slice A n c)).alloc (.cells #[.bool t, .slice none 0 0] 73) = ws at hX hY hR hO hB ⊢
  clear hXd hYd hRd hBd hzd x0 x1 x2 x3 x4 y0 y1 y2 y3 y4
  go_loopw [6, 32] (fun bv iv wr => ∃ (j br : Nat) (os : List Nat) (A2 : Option Addr) (c2 : Nat), j ≤ k ∧ bv = .int .i64 br ∧ iv = .int .i64 j ∧ os.length = j ∧ br ≤ 1 ∧ Digs B6 os ∧ val B6 (m.take j) + B6 ^ j * br = val B6 os + val B6 (l.take j) ∧
      wr.heap[w.heap.size]? = some (.cells #[.bool t, .slice B k d] 73 (0, 0)) ∧ wr.heap[w.heap.size + 1]? = some (.cells #[.bool s, .slice A n c] 73 (0, 0)) ∧ wr.heap[w.heap.size + 1 + 1]? = some (.cells #[.bool false, .slice none 0 0] 73 (0, 0)) ∧
      wr.heap[w.heap.size + 1 + 1 + 1]? = some (.cells #[.bool t, .slice A2 j c2] 73 (0, 0)) ∧ wr.ownsRow w.heap.size 3 1 (.slice A2 j c2) j (digV .i64 os) ∧ Below w.heap.size w wr) (fun _ iv _ => k - (intOf iv).toNat)
  case atStart => exact ⟨0, 0, [], none, 0, by omega, rfl, rfl, rfl, by omega, Digs.nil _, by simp [val], hX, hY, hR, hO, World.ownsRow_nil _ _ _ _, hB⟩
  case round =>
    clear hX hY hR hO hB ws
    obtain ⟨j, br, os, A2, c2, hj, rfl, rfl, hos, hbr, gos, hval, hX, hY, hR, hO, hown, hB⟩ := hrel
    have HV := Lib.hid hval; have HO := Lib.hid hos; clear hval hos
    obtain ⟨x0, x1, -, -, -⟩ := box2 hX
    obtain ⟨y0, y1, -, -, -⟩ := box2 hY
    obtain ⟨r0, r1, r2, r3, r4⟩ := box2 hR
    obtain ⟨o0, o1, o2, o3, o4⟩ := box2 hO
    have hz := hB.size
    by_cases hjN : j < k
    · have b1 := dg_lt gm (by decide) j
      have b2 := dg_lt gl (by decide) j
      unfold B6 at b1 b2
      have hew := hd.below hB
      have her : ∀ x, Calls Tryz.prog 74 #[.slice A n c, .int .i64 j] (wr.drewN x) fun e w' => e = .returned (.int .i64 (dg l j : Nat)) ∧ w' = wr.drewN x := fun x => (digit_c l A n c j (wr.drewN x) hew (by omega)).mono fun _ _ h => ⟨h.2, h.1.symm⟩
      obtain ⟨g, rfl, hg, hcell⟩ := he.at_ (by omega)
      have hx := (hB.cell (p := ⟨g, j, none⟩) hg).trans (hcell j hjN)
      clear hcell
      have hjI : (j : Int) < (k : Int) := by omega
      go_wp2_with fail
      go_quiet ((go_at_call 74; exact Calls.quiet_of_same (her _)))
      clear her hew x0 x1 y0 y1 r0 r1 r2 r3 r4 o0 o1 o2 o3 o4 hx
      have hXd : (wr.drewN nq).heap[w.heap.size]? = some (.cells #[.bool t, .slice (some ⟨g, 0, none⟩) k d] 73 (0, 0)) := by exact hX
      have hYd : (wr.drewN nq).heap[w.heap.size + 1]? = some (.cells #[.bool s, .slice A n c] 73 (0, 0)) := by exact hY
      have hRd : (wr.drewN nq).heap[w.heap.size + 1 + 1]? = some (.cells #[.bool false, .slice none 0 0] 73 (0, 0)) := by exact hR
      have hOd : (wr.drewN nq).heap[w.heap.size + 1 + 1 + 1]? = some (.cells #[.bool t, .slice A2 j c2] 73 (0, 0)) := by exact hO
      have hownd : (wr.drewN nq).ownsRow w.heap.size 3 1 (.slice A2 j c2) j (digV .i64 os) := by exact hown
      have hBd : Below w.heap.size w (wr.drewN nq) := below_drewN hB nq
      generalize wr.drewN nq = wd at *
      clear hX hY hR hO hown hB hz
      have hzd := hBd.size
      obtain ⟨o0, o1, o2, o3, o4⟩ := box2 hOd
      have HSR := Lib.hid (diff_rel6 HO.out HV.out gos hbr gm gl)
      obtain ⟨p, hp⟩ : ∃ p, dg m j = p := ⟨_, rfl⟩
      obtain ⟨q, hq⟩ : ∃ q, dg l j = q := ⟨_, rfl⟩
      rw [hp] at b1
      rw [hq] at b2
      rw [hp, hq] at HSR
      rw [hp, hq]
      clear hp hq
      by_cases hneg : (p : Int) - (q : Int) - (br : Int) < 0
      · go_wp2_with (first
          | (at_builtin; refine wpList_push_own rfl _ _ 71 rfl w.heap.size 3 i0 (.int .i64 0) 8 Tryz.underlying71 hi hz0 hz1 hz2 rfl (.slice A2 j c2) j (digV .i64 os) rfl hownd (.int .i64 ((p : Int) - (q : Int) - (br : Int) + 1000000)) rfl rfl (by unfold maxLen; omega) (by omega) hzd ?_; intro A3 c3 w2 hown2 hg2; have hX2 := grown_heap hXd hownd hg2 (by decide); have hY2 := grown_heap hYd hownd hg2 (by decide); have hR2 := grown_heap hRd hownd hg2 (by decide); have hO2 := grown_heap hOd hownd hg2 (by decide); have hB2 := hBd.grown hg2 hzd (own_ge hownd); clear hg2; have hbx := box2 hO2; obtain ⟨z0, z1, z2, z3, z4⟩ := hbx))
        go_roundw
        case rel =>
          obtain ⟨g1, g3⟩ := HSR.out
          have hos := HO.out
          have e1 : ((p : Int) - (q : Int) - (br : Int) + 1000000) = ((dig B6 br p q : Nat) : Int) := by unfold dig B6; split <;> omega
          have e2 : bor br p q = 1 := by unfold bor; rw [if_pos (by omega)]
          rw [e1, ← digV_snoc] at hown2
          rw [e2] at g3
          exact ⟨j + 1, 1, os ++ [dig B6 br p q], A3, c3, by omega, by go_num, by go_num, by simp [hos], by omega, g1, g3,
            heap_far hX2 (by dsimp only; omega) _, heap_far hY2 (by dsimp only; omega) _, heap_far hR2 (by dsimp only; omega) _, by have := heap_set hO2 1 (.slice A3 (j + 1) c3); simpa using this, own_away hown2 hO2 (by decide) _, hB2.setCell (by dsimp only; omega) _⟩
        case measure => simp [intOf]; omega
      · go_wp2_with (first
          | (at_builtin; refine wpList_push_own rfl _ _ 71 rfl w.heap.size 3 i0 (.int .i64 0) 8 Tryz.underlying71 hi hz0 hz1 hz2 rfl (.slice A2 j c2) j (digV .i64 os) rfl hownd (.int .i64 ((p : Int) - (q : Int) - (br : Int))) rfl rfl (by unfold maxLen; omega) (by omega) hzd ?_; intro A3 c3 w2 hown2 hg2; have hX2 := grown_heap hXd hownd hg2 (by decide); have hY2 := grown_heap hYd hownd hg2 (by decide); have hR2 := grown_heap hRd hownd hg2 (by decide); have hO2 := grown_heap hOd hownd hg2 (by decide); have hB2 := hBd.grown hg2 hzd (own_ge hownd); clear hg2; have hbx := box2 hO2; obtain ⟨z0, z1, z2, z3, z4⟩ := hbx))
        go_roundw
        case rel =>
          obtain ⟨g1, g3⟩ := HSR.out
          have hos := HO.out
          have e1 : ((p : Int) - (q : Int) - (br : Int)) = ((dig B6 br p q : Nat) : Int) := by unfold dig B6; split <;> omega
          have e2 : bor br p q = 0 := by unfold bor; rw [if_neg (by omega)]
          rw [e1, ← digV_snoc] at hown2
          rw [e2] at g3
          exact ⟨j + 1, 0, os ++ [dig B6 br p q], A3, c3, by omega, by go_num, by go_num, by simp [hos], by omega, g1, g3,
            heap_far hX2 (by dsimp only; omega) _, heap_far hY2 (by dsimp only; omega) _, heap_far hR2 (by dsimp only; omega) _, by have := heap_set hO2 1 (.slice A3 (j + 1) c3); simpa using this, own_away hown2 hO2 (by decide) _, hB2.setCell (by dsimp only; omega) _⟩
        case measure => simp [intOf]; omega
    · obtain rfl : j = k := by omega
      go_wp2_with fail
      refine (trimmed_r os t A2 j c2 _ (Dig.of_own hown) (own_cap hown).1 (own_cap hown).2).mono ?_
      rintro e w2 ⟨hb2, kk, hkk, htk, rfl⟩
      have hR2 := heap_below hR hb2
      obtain ⟨g0, g1, g2, g3, g4⟩ := box2 hR2
      go_wp2
      have hd0 := (Dig.of_own hown).below hb2
      have hve := diff_end6 (by rw [HM.out]; exact Nat.le_refl _) (by rw [HO.out]) (Nat.le_of_lt_succ (by have := HLT.out; omega)) gos gl nl gm HV.out
      refine bodyPost_ret (v := .agg #[.bool (t && decide (0 < kk)), .slice A2 kk c2]) (by simp [results, Tryz.results36, go_sem, g0, g1]) rfl ⟨_, _, _, _, rfl, Big.box2 (K := .i64) ⟨trim os, htk ▸ hd0.take hkk, ?_, (own_cap hown).2, digs_trim gos, norm_trim _, ?_, ?_⟩ hR2 (by decide) _ _, ((below_then hb2 hB hz).setCell (by dsimp only; omega) _).setCell (by dsimp only; omega) _⟩
      · have := (own_cap hown).1; omega
      · exact trim_ne0 htk hkk HO.out
      · exact diff_sg_swap HST.out htk hve (by have := HLT.out; omega)
set_option maxHeartbeats 4000000 in
set_option maxRecDepth 100000 in
theorem plus_diff_keep (w : World) {s t : Bool} {A B : Option Addr} {n c k d : Nat} {x y : Int} (ha : Big .i64 3 B6 w s A n c x) (hb : Big .i64 3 B6 w t B k d y) (sx : Small x) (sy : Small y) (hst : s ≠ t) (hlt : ¬ x.natAbs < y.natAbs) :
    Calls Tryz.prog 36 #[.agg #[.bool s, .slice A n c], .agg #[.bool t, .slice B k d]] w (Makes .i64 3 B6 w (x + y)) := by
  obtain ⟨l, hd, hnc, hcm, gl, nl, hs, rfl⟩ := ha
  obtain ⟨m, he, hkd, hdm, gm, nm, ht, rfl⟩ := hb
  obtain ⟨i0, hi, hz0, hz1, hz2⟩ := info_parts Tryz.info3
  have hl := hd.1
  have hm := he.1
  have h1 := small_len6 nl sx
  have h2 := small_len6 nm sy
  have HL := Lib.hid hl; have HM := Lib.hid hm
  rw [hl] at h1
  rw [hm] at h2
  rw [sg_natAbs, sg_natAbs] at hlt
  have HLT := Lib.hid hlt; have HST := Lib.hid hst
  have hst' : (s != t) = true := by simpa using hst
  have hst2 : (s == t) = false := by simpa using hst
  clear hl hm hlt hst
  go_enter Tryz.func36, Tryz.ntmps36
  go_wp2_with fail
  generalize hw1 : ((w.alloc (Obj.cells #[Value.bool s, Value.slice A n c] 73)).alloc (Obj.cells #[Value.bool t, Value.slice B k d] 73)).alloc (Obj.cells #[Value.bool false, Value.slice none 0 0] 73) = w1
  obtain ⟨hX, hY, hR, hB⟩ := boxes3 _ _ _ _ _ _ _ _ _ _ w1 hw1
  have hz1 : w1.heap.size = w.heap.size + 1 + 1 + 1 := by rw [← hw1]; simp
  clear hw1
  obtain ⟨x0, x1, x2, x3, x4⟩ := box2 hX
  obtain ⟨y0, y1, y2, y3, y4⟩ := box2 hY
  refine (sizes_r l m A B n c k d _ (hd.below hB) hnc hcm (he.below hB) hkd hdm gl gm nl nm).mono ?_
  rintro e w2 ⟨r, rfl, hr, q, rfl⟩
  have hr0 : ¬ r < 0 := by have := HLT.out; have := hr.1; omega
  clear hr
  have hXd : (w1.drewN q).heap[w.heap.size]? = some (.cells #[.bool s, .slice A n c] 73 (0, 0)) := by exact hX
  have hYd : (w1.drewN q).heap[w.heap.size + 1]? = some (.cells #[.bool t, .slice B k d] 73 (0, 0)) := by exact hY
  have hRd : (w1.drewN q).heap[w.heap.size + 1 + 1]? = some (.cells #[.bool false, .slice none 0 0] 73 (0, 0)) := by exact hR
  have hBd : Below w.heap.size w (w1.drewN q) := below_drewN hB q
  have hzd : (w1.drewN q).heap.size = w.heap.size + 1 + 1 + 1 := by exact hz1
  generalize w1.drewN q = wd at *
  clear hX hY hR hB hz1 x0 x1 x2 x3 x4 y0 y1 y2 y3 y4
  obtain ⟨x0, x1, x2, x3, x4⟩ := box2 hXd
  obtain ⟨y0, y1, y2, y3, y4⟩ := box2 hYd
  go_wp2_with fail
  have hX : (wd.alloc (.cells #[.bool s, .slice none 0 0] 73)).heap[w.heap.size]? = some (.cells #[.bool s, .slice A n c] 73 (0, 0)) := heap_old hXd _
  have hY : (wd.alloc (.cells #[.bool s, .slice none 0 0] 73)).heap[w.heap.size + 1]? = some (.cells #[.bool t, .slice B k d] 73 (0, 0)) := heap_old hYd _
  have hR : (wd.alloc (.cells #[.bool s, .slice none 0 0] 73)).heap[w.heap.size + 1 + 1]? = some (.cells #[.bool false, .slice none 0 0] 73 (0, 0)) := heap_old hRd _
  have hO : (wd.alloc (.cells #[.bool s, .slice none 0 0] 73)).heap[w.heap.size + 1 + 1 + 1]? = some (.cells #[.bool s, .slice none 0 0] 73 (0, 0)) := heap_new _ _ hzd.symm
  have hB : Below w.heap.size w (wd.alloc (.cells #[.bool s, .slice none 0 0] 73)) := hBd.alloc (by omega) _
  generalize wd.alloc (.cells #[.bool s, .slice none 0 0] 73) = ws at hX hY hR hO hB ⊢
  clear hXd hYd hRd hBd hzd x0 x1 x2 x3 x4 y0 y1 y2 y3 y4
  go_loopw [6, 32] (fun bv iv wr => ∃ (j br : Nat) (os : List Nat) (A2 : Option Addr) (c2 : Nat), j ≤ n ∧ bv = .int .i64 br ∧ iv = .int .i64 j ∧ os.length = j ∧ br ≤ 1 ∧ Digs B6 os ∧ val B6 (l.take j) + B6 ^ j * br = val B6 os + val B6 (m.take j) ∧
      wr.heap[w.heap.size]? = some (.cells #[.bool s, .slice A n c] 73 (0, 0)) ∧ wr.heap[w.heap.size + 1]? = some (.cells #[.bool t, .slice B k d] 73 (0, 0)) ∧ wr.heap[w.heap.size + 1 + 1]? = some (.cells #[.bool false, .slice none 0 0] 73 (0, 0)) ∧
      wr.heap[w.heap.size + 1 + 1 + 1]? = some (.cells #[.bool s, .slice A2 j c2] 73 (0, 0)) ∧ wr.ownsRow w.heap.size 3 1 (.slice A2 j c2) j (digV .i64 os) ∧ Below w.heap.size w wr) (fun _ iv _ => n - (intOf iv).toNat)
  case atStart => exact ⟨0, 0, [], none, 0, by omega, rfl, rfl, rfl, by omega, Digs.nil _, by simp [val], hX, hY, hR, hO, World.ownsRow_nil _ _ _ _, hB⟩
  case round =>
    clear hX hY hR hO hB ws
    obtain ⟨j, br, os, A2, c2, hj, rfl, rfl, hos, hbr, gos, hval, hX, hY, hR, hO, hown, hB⟩ := hrel
    have HV := Lib.hid hval; have HO := Lib.hid hos; clear hval hos
    obtain ⟨x0, x1, -, -, -⟩ := box2 hX
    obtain ⟨y0, y1, -, -, -⟩ := box2 hY
    obtain ⟨r0, r1, r2, r3, r4⟩ := box2 hR
    obtain ⟨o0, o1, o2, o3, o4⟩ := box2 hO
    have hz := hB.size
    by_cases hjN : j < n
    · have b1 := dg_lt gl (by decide) j
      have b2 := dg_lt gm (by decide) j
      unfold B6 at b1 b2
      have hew := he.below hB
      have her : ∀ x, Calls Tryz.prog 74 #[.slice B k d, .int .i64 j] (wr.drewN x) fun e w' => e = .returned (.int .i64 (dg m j : Nat)) ∧ w' = wr.drewN x := fun x => (digit_c m B k d j (wr.drewN x) hew (by omega)).mono fun _ _ h => ⟨h.2, h.1.symm⟩
      obtain ⟨g, rfl, hg, hcell⟩ := hd.at_ (by omega)
      have hx := (hB.cell (p := ⟨g, j, none⟩) hg).trans (hcell j hjN)
      clear hcell
      have hjI : (j : Int) < (n : Int) := by omega
      go_wp2_with fail
      go_quiet ((go_at_call 74; exact Calls.quiet_of_same (her _)))
      clear her hew x0 x1 y0 y1 r0 r1 r2 r3 r4 o0 o1 o2 o3 o4 hx
      have hXd : (wr.drewN nq).heap[w.heap.size]? = some (.cells #[.bool s, .slice (some ⟨g, 0, none⟩) n c] 73 (0, 0)) := by exact hX
      have hYd : (wr.drewN nq).heap[w.heap.size + 1]? = some (.cells #[.bool t, .slice B k d] 73 (0, 0)) := by exact hY
      have hRd : (wr.drewN nq).heap[w.heap.size + 1 + 1]? = some (.cells #[.bool false, .slice none 0 0] 73 (0, 0)) := by exact hR
      have hOd : (wr.drewN nq).heap[w.heap.size + 1 + 1 + 1]? = some (.cells #[.bool s, .slice A2 j c2] 73 (0, 0)) := by exact hO
      have hownd : (wr.drewN nq).ownsRow w.heap.size 3 1 (.slice A2 j c2) j (digV .i64 os) := by exact hown
      have hBd : Below w.heap.size w (wr.drewN nq) := below_drewN hB nq
      generalize wr.drewN nq = wd at *
      clear hX hY hR hO hown hB hz
      have hzd := hBd.size
      obtain ⟨o0, o1, o2, o3, o4⟩ := box2 hOd
      have HSR := Lib.hid (diff_rel6 HO.out HV.out gos hbr gl gm)
      obtain ⟨p, hp⟩ : ∃ p, dg l j = p := ⟨_, rfl⟩
      obtain ⟨q, hq⟩ : ∃ q, dg m j = q := ⟨_, rfl⟩
      rw [hp] at b1
      rw [hq] at b2
      rw [hp, hq] at HSR
      rw [hp, hq]
      clear hp hq
      by_cases hneg : (p : Int) - (q : Int) - (br : Int) < 0
      · go_wp2_with (first
          | (at_builtin; refine wpList_push_own rfl _ _ 71 rfl w.heap.size 3 i0 (.int .i64 0) 8 Tryz.underlying71 hi hz0 hz1 hz2 rfl (.slice A2 j c2) j (digV .i64 os) rfl hownd (.int .i64 ((p : Int) - (q : Int) - (br : Int) + 1000000)) rfl rfl (by unfold maxLen; omega) (by omega) hzd ?_; intro A3 c3 w2 hown2 hg2; have hX2 := grown_heap hXd hownd hg2 (by decide); have hY2 := grown_heap hYd hownd hg2 (by decide); have hR2 := grown_heap hRd hownd hg2 (by decide); have hO2 := grown_heap hOd hownd hg2 (by decide); have hB2 := hBd.grown hg2 hzd (own_ge hownd); clear hg2; have hbx := box2 hO2; obtain ⟨z0, z1, z2, z3, z4⟩ := hbx))
        go_roundw
        case rel =>
          obtain ⟨g1, g3⟩ := HSR.out
          have hos := HO.out
          have e1 : ((p : Int) - (q : Int) - (br : Int) + 1000000) = ((dig B6 br p q : Nat) : Int) := by unfold dig B6; split <;> omega
          have e2 : bor br p q = 1 := by unfold bor; rw [if_pos (by omega)]
          rw [e1, ← digV_snoc] at hown2
          rw [e2] at g3
          exact ⟨j + 1, 1, os ++ [dig B6 br p q], A3, c3, by omega, by go_num, by go_num, by simp [hos], by omega, g1, g3,
            heap_far hX2 (by dsimp only; omega) _, heap_far hY2 (by dsimp only; omega) _, heap_far hR2 (by dsimp only; omega) _, by have := heap_set hO2 1 (.slice A3 (j + 1) c3); simpa using this, own_away hown2 hO2 (by decide) _, hB2.setCell (by dsimp only; omega) _⟩
        case measure => simp [intOf]; omega
      · go_wp2_with (first
          | (at_builtin; refine wpList_push_own rfl _ _ 71 rfl w.heap.size 3 i0 (.int .i64 0) 8 Tryz.underlying71 hi hz0 hz1 hz2 rfl (.slice A2 j c2) j (digV .i64 os) rfl hownd (.int .i64 ((p : Int) - (q : Int) - (br : Int))) rfl rfl (by unfold maxLen; omega) (by omega) hzd ?_; intro A3 c3 w2 hown2 hg2; have hX2 := grown_heap hXd hownd hg2 (by decide); have hY2 := grown_heap hYd hownd hg2 (by decide); have hR2 := grown_heap hRd hownd hg2 (by decide); have hO2 := grown_heap hOd hownd hg2 (by decide); have hB2 := hBd.grown hg2 hzd (own_ge hownd); clear hg2; have hbx := box2 hO2; obtain ⟨z0, z1, z2, z3, z4⟩ := hbx))
        go_roundw
        case rel =>
          obtain ⟨g1, g3⟩ := HSR.out
          have hos := HO.out
          have e1 : ((p : Int) - (q : Int) - (br : Int)) = ((dig B6 br p q : Nat) : Int) := by unfold dig B6; split <;> omega
          have e2 : bor br p q = 0 := by unfold bor; rw [if_neg (by omega)]
          rw [e1, ← digV_snoc] at hown2
          rw [e2] at g3
          exact ⟨j + 1, 0, os ++ [dig B6 br p q], A3, c3, by omega, by go_num, by go_num, by simp [hos], by omega, g1, g3,
            heap_far hX2 (by dsimp only; omega) _, heap_far hY2 (by dsimp only; omega) _, heap_far hR2 (by dsimp only; omega) _, by have := heap_set hO2 1 (.slice A3 (j + 1) c3); simpa using this, own_away hown2 hO2 (by decide) _, hB2.setCell (by dsimp only; omega) _⟩
        case measure => simp [intOf]; omega
    · obtain rfl : j = n := by omega
      go_wp2_with fail
      refine (trimmed_r os s A2 j c2 _ (Dig.of_own hown) (own_cap hown).1 (own_cap hown).2).mono ?_
      rintro e w2 ⟨hb2, kk, hkk, htk, rfl⟩
      have hR2 := heap_below hR hb2
      obtain ⟨g0, g1, g2, g3, g4⟩ := box2 hR2
      go_wp2
      have hd0 := (Dig.of_own hown).below hb2
      have hve := diff_end6 (by rw [HL.out]; exact Nat.le_refl _) (by rw [HO.out]) (Nat.le_of_lt_succ (by have := HLT.out; omega)) gos gm nm gl HV.out
      refine bodyPost_ret (v := .agg #[.bool (s && decide (0 < kk)), .slice A2 kk c2]) (by simp [results, Tryz.results36, go_sem, g0, g1]) rfl ⟨_, _, _, _, rfl, Big.box2 (K := .i64) ⟨trim os, htk ▸ hd0.take hkk, ?_, (own_cap hown).2, digs_trim gos, norm_trim _, ?_, ?_⟩ hR2 (by decide) _ _, ((below_then hb2 hB hz).setCell (by dsimp only; omega) _).setCell (by dsimp only; omega) _⟩
      · have := (own_cap hown).1; omega
      · exact trim_ne0 htk hkk HO.out
      · exact diff_sg_keep HST.out htk hve (by have := HLT.out; omega)
theorem plus_r (w : World) {s t : Bool} {A B : Option Addr} {n c k d : Nat} {x y : Int} (ha : Big .i64 3 B6 w s A n c x) (hb : Big .i64 3 B6 w t B k d y) (sx : Small x) (sy : Small y) :
    Calls Tryz.prog 36 #[.agg #[.bool s, .slice A n c], .agg #[.bool t, .slice B k d]] w (Makes .i64 3 B6 w (x + y)) := by
  by_cases hst : s = t
  · subst hst; exact plus_same_r w ha hb sx sy
  · by_cases hlt : x.natAbs < y.natAbs
    · exact plus_diff_swap w ha hb sx sy hst hlt
    · exact plus_diff_keep w ha hb sx sy hst hlt
theorem row_cell6 {w : World} {B : Nat} {E : TypeId} {g N c : Nat} {os : List Nat} (h : w.ownsRow B E 1 (.slice (some ⟨g, 0, none⟩) N c) N (digV .i64 os)) {p : Nat} (hp : p < N) : w.cell? ⟨g, p, none⟩ = some (.int .i64 ((dg os p : Nat) : Int)) := by
  have hl := h.1
  rw [digV_length] at hl
  rw [h.cellAt p (by omega)]
  exact digV_get _ (by omega)
theorem row_store6 {w : World} {B : Nat} {E : TypeId} {g N c : Nat} {os : List Nat} (h : w.ownsRow B E 1 (.slice (some ⟨g, 0, none⟩) N c) N (digV .i64 os)) (p : Nat) {X : Int} {x : Nat} (hx : X = (x : Int)) :
    (w.setCell ⟨g, p, none⟩ (.int .i64 X)).ownsRow B E 1 (.slice (some ⟨g, 0, none⟩) N c) N (digV .i64 (os.set p x)) := by
  subst hx; rw [digV_set]; exact (h.stored p _).1
theorem row_len6 {w : World} {B : Nat} {E : TypeId} {N : Nat} {v : Value} {os : List Nat} (h : w.ownsRow B E 1 v N (digV .i64 os)) : os.length = N := by
  have := h.1; rw [digV_length] at this; omega
theorem dg_set_ne {l : List Nat} {k j d : Nat} (h : j ≠ k) : dg (l.set k d) j = dg l j := getD_set_other h
theorem dg_set_eq {l : List Nat} {k d : Nat} (h : k < l.length) : dg (l.set k d) k = d := getD_set_same h
theorem own_zeros (w : World) (B N : Nat) (hB : B ≤ w.heap.size) (hN : N ≤ 100000) : (w.alloc (.cells (madeCells #[Value.int .i64 0] N) 3)).ownsRow B 3 1 (.slice (some ⟨w.heap.size, 0, none⟩) N N) N (digV .i64 (List.replicate N 0)) := by
  have h := World.ownsRow_lit (base := B) (e := 3) (size := 1) w (madeCells #[Value.int .i64 0] N) N hB (by unfold maxLen; omega) (by
    have := congrArg List.length (toList_madeCells_one (.int .i64 0) N)
    rw [Array.length_toList, List.length_replicate] at this
    omega)
  rw [toList_madeCells_one] at h
  have e : digV .i64 (List.replicate N 0) = List.replicate N (Value.int .i64 0) := by simp [digV]
  rw [e]
  exact h
theorem dg_zeros (N p : Nat) : dg (List.replicate N 0) p = 0 := by
  simp [dg, List.getD_eq_getElem?_getD, List.getElem?_replicate]; split <;> rfl
theorem carry_val {os : List Nat} {r : Nat} (hr : r + 1 < os.length) : val B6 ((os.set (r + 1) (dg os (r + 1) + dg os r / B6)).set r (dg os r % B6)) = val B6 os := by
  have h1 := val_set B6 os (r + 1) (dg os (r + 1) + dg os r / B6) hr
  have h2 := val_set B6 (os.set (r + 1) (dg os (r + 1) + dg os r / B6)) r (dg os r % B6) (by rw [List.length_set]; omega)
  have e1 : os.getD (r + 1) 0 = dg os (r + 1) := rfl
  have e2 : (os.set (r + 1) (dg os (r + 1) + dg os r / B6)).getD r 0 = dg os r := getD_set_other (by omega)
  rw [e1] at h1
  rw [e2] at h2
  have h3 : B6 ^ (r + 1) * (dg os (r + 1) + dg os r / B6) = B6 ^ (r + 1) * dg os (r + 1) + B6 ^ r * (B6 * (dg os r / B6)) := by rw [Nat.mul_add, Nat.pow_succ, Nat.mul_assoc (B6 ^ r) B6 (dg os r / B6)]
  have h4 : B6 ^ r * dg os r = B6 ^ r * (B6 * (dg os r / B6)) + B6 ^ r * (dg os r % B6) := by rw [← Nat.mul_add, Nat.div_add_mod]
  omega
def mulS (ps : List Nat) (r z : Nat) : List Nat := ((ps.set r (dg ps r + z)).set (r + 1) (dg ps (r + 1) + (dg ps r + z) / B6)).set r ((dg ps r + z) % B6)
theorem mulS_val {ps : List Nat} {r z : Nat} (hr : r + 1 < ps.length) : val B6 (mulS ps r z) = val B6 ps + B6 ^ r * z := by
  have h1 := val_set B6 ps r (dg ps r + z) (by omega)
  have h2 := carry_val (os := ps.set r (dg ps r + z)) (r := r) (by rw [List.length_set]; exact hr)
  rw [dg_set_eq (by omega), dg_set_ne (by omega)] at h2
  unfold mulS
  rw [h2]
  have e1 : ps.getD r 0 = dg ps r := rfl
  rw [e1, Nat.mul_add] at h1
  omega
theorem mulS_at {ps : List Nat} {r z p : Nat} (hr : r + 1 < ps.length) : dg (mulS ps r z) p = if p = r then (dg ps r + z) % B6 else if p = r + 1 then dg ps (r + 1) + (dg ps r + z) / B6 else dg ps p := by
  unfold mulS
  by_cases h1 : p = r
  · subst h1; rw [if_pos rfl, dg_set_eq (by simp; omega)]
  · rw [if_neg h1, dg_set_ne h1]
    by_cases h2 : p = r + 1
    · subst h2; rw [if_pos rfl, dg_set_eq (by simp; omega)]
    · rw [if_neg h2, dg_set_ne h2, dg_set_ne h1]
def Mid (ps : List Nat) (j k q : Nat) : Prop :=
  (∀ p, p ≠ j + q → dg ps p ≤ 1000000) ∧ dg ps (j + q) ≤ 2000000 ∧ (∀ p, j + k ≤ p → (q < k ∨ p ≠ j + k) → dg ps p = 0) ∧ (q = k → dg ps (j + k) ≤ 1000000)
theorem Mid.step {ps : List Nat} {j k q x y : Nat} (h : Mid ps j k q) (hq : q < k) (hl : j + q + 1 < ps.length) (hx : x < 1000000) (hy : y < 1000000) : Mid (mulS ps (j + q) (x * y)) j k (q + 1) := by
  obtain ⟨h1, h2, h3, h4⟩ := h
  have hxy : x * y ≤ 999999 * 999999 := Nat.mul_le_mul (by omega) (by omega)
  have hc : (dg ps (j + q) + x * y) / B6 ≤ 1000000 := by
    have : dg ps (j + q) + x * y ≤ 1000000 * 1000000 + 1 := by omega
    unfold B6; omega
  have hm : (dg ps (j + q) + x * y) % B6 < 1000000 := Nat.mod_lt _ (by decide)
  refine ⟨fun p hp => ?_, ?_, fun p hp hp2 => ?_, fun e => ?_⟩
  · rw [mulS_at hl]
    split
    · omega
    · rw [if_neg (by omega)]
      exact h1 p (by omega)
  · rw [mulS_at hl, if_neg (by omega), if_pos (by omega)]
    have := h1 (j + q + 1) (by omega)
    omega
  · rw [mulS_at hl, if_neg (by omega), if_neg (by omega)]
    exact h3 p hp (by omega)
  · rw [mulS_at hl, if_neg (by omega), if_pos (by omega)]
    have := h3 (j + q + 1) (by omega) (by omega)
    omega
def Btw (os : List Nat) (j k : Nat) : Prop := (∀ p, dg os p ≤ 1000000) ∧ (∀ p, j + k ≤ p → dg os p = 0)
theorem Btw.mid {os : List Nat} {j k : Nat} (h : Btw os j k) : Mid os j k 0 :=
  ⟨fun p _ => h.1 p, by have := h.1 (j + 0); omega, fun p hp _ => h.2 p hp, fun _ => h.1 _⟩
theorem Mid.btw {ps : List Nat} {j k : Nat} (h : Mid ps j k k) : Btw ps (j + 1) k :=
  ⟨fun p => by
    by_cases e : p = j + k
    · subst e; exact h.2.2.2 rfl
    · exact h.1 p e, fun p hp => h.2.2.1 p (by omega) (by omega)⟩
theorem times_row {l m ps : List Nat} {j q : Nat} (hl : j + q + 1 < ps.length) (hval : val B6 ps = val B6 (l.take j) * val B6 m + B6 ^ j * (dg l j * val B6 (m.take q))) :
    val B6 (mulS ps (j + q) (dg l j * dg m q)) = val B6 (l.take j) * val B6 m + B6 ^ j * (dg l j * val B6 (m.take (q + 1))) := by
  rw [mulS_val hl, hval, val_take_succ, Nat.mul_add, Nat.mul_add, Nat.pow_add]
  have e2 : B6 ^ j * B6 ^ q * (dg l j * dg m q) = B6 ^ j * (dg l j * (B6 ^ q * m.getD q 0)) := by
    show _ = B6 ^ j * (dg l j * (B6 ^ q * dg m q))
    rw [Nat.mul_assoc, Nat.mul_left_comm (B6 ^ q)]
  rw [e2, Nat.add_assoc]
theorem times_next {l m ps : List Nat} {j k : Nat} (hk : m.length = k) (hval : val B6 ps = val B6 (l.take j) * val B6 m + B6 ^ j * (dg l j * val B6 (m.take k))) :
    val B6 ps = val B6 (l.take (j + 1)) * val B6 m := by
  rw [hval, show m.take k = m from List.take_of_length_le (by omega), val_take_succ, Nat.add_mul, Nat.mul_assoc]
  rfl
def Fin_ (os : List Nat) (i : Nat) : Prop := (∀ p, p < i → dg os p < 1000000) ∧ (∀ p, i < p → dg os p ≤ 1000000) ∧ dg os i ≤ 2000000
def carS (os : List Nat) (r : Nat) : List Nat := (os.set (r + 1) (dg os (r + 1) + dg os r / B6)).set r (dg os r % B6)
theorem Fin_.step {os : List Nat} {i : Nat} (h : Fin_ os i) (hl : i + 1 < os.length) : Fin_ (carS os i) (i + 1) := by
  obtain ⟨h1, h2, h3⟩ := h
  have hat : ∀ p, dg (carS os i) p = if p = i then dg os i % B6 else if p = i + 1 then dg os (i + 1) + dg os i / B6 else dg os p := by
    intro p
    unfold carS
    by_cases e1 : p = i
    · subst e1; rw [if_pos rfl, dg_set_eq (by simp; omega)]
    · rw [if_neg e1, dg_set_ne e1]
      by_cases e2 : p = i + 1
      · subst e2; rw [if_pos rfl, dg_set_eq (by omega)]
      · rw [if_neg e2, dg_set_ne e2]
  have hm : dg os i % B6 < 1000000 := Nat.mod_lt _ (by decide)
  have hc : dg os i / B6 ≤ 2 := by unfold B6; omega
  refine ⟨fun p hp => ?_, fun p hp => ?_, ?_⟩
  · rw [hat]
    split
    · exact hm
    · rw [if_neg (by omega)]; exact h1 p (by omega)
  · rw [hat, if_neg (by omega), if_neg (by omega)]; exact h2 p (by omega)
  · rw [hat, if_neg (by omega), if_pos rfl]
    have := h2 (i + 1) (by omega)
    omega
theorem Fin_.digs {os : List Nat} {N : Nat} (h : Fin_ os N) (hl : os.length = N + 1) (hv : val B6 os < B6 ^ N) : Digs B6 os := by
  have hz : dg os N = 0 := by
    have h1 := val_split B6 os N (by omega)
    have h2 : os.drop N = [dg os N] := by
      have h3 : (os.drop N).length = 1 := by rw [List.length_drop]; omega
      have h4 : ∃ a, os.drop N = [a] := by
        match os.drop N, h3 with
        | [a], _ => exact ⟨a, rfl⟩
      obtain ⟨a, ha⟩ := h4
      have h5 : (os.drop N)[0]? = some a := by rw [ha]; rfl
      rw [List.getElem?_drop] at h5
      rw [ha]
      unfold dg
      rw [List.getD_eq_getElem?_getD, show N = N + 0 by omega, h5]
      rfl
    rw [h2] at h1
    rcases Nat.eq_zero_or_pos (dg os N) with h3 | h3
    · exact h3
    · have h4 : B6 ^ N * 1 ≤ B6 ^ N * val B6 [dg os N] := Nat.mul_le_mul_left _ (by simp [val]; omega)
      omega
  intro d hd
  obtain ⟨p, hp, rfl⟩ := List.getElem_of_mem hd
  have e : os[p] = dg os p := by unfold dg; rw [List.getD_eq_getElem?_getD, List.getElem?_eq_getElem hp]; rfl
  rw [e]
  rcases Nat.lt_or_ge p N with h1 | h1
  · exact h.1 p h1
  · rw [show p = N by omega, hz]; decide
end Go.Proofs.YtnnenokgjkpkiaaGreatDoor
