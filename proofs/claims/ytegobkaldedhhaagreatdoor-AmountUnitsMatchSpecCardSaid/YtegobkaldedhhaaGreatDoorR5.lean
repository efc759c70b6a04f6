
/- The walk of the reference's numbers: Times. -/
import Derived.Test.YtegobkaldedhhaaGreatDoorR4
namespace Go.Proofs.YtegobkaldedhhaaGreatDoor
open Go.RowKit Limb

theorem sg_mul6 {s t : Bool} {a b : Nat} : sg (!s == t) (a * b) = sg s a * sg t b := by cases s <;> cases t <;> simp [sg, Int.neg_mul, Int.mul_neg]
theorem times_sg {s t : Bool} {os : List Nat} {kk a b : Nat} (h : trim os = os.take kk) (hv : val B6 os = a * b) : sg s a * sg t b = sg ((!s == t) && decide (0 < kk)) (val B6 (trim os)) := by
  rw [← sg_mul6, val_trim, hv]
  by_cases h0 : 0 < kk
  · rw [decide_eq_true h0, Bool.and_true]
  · have h1 : val B6 (trim os) = 0 := by rw [h, show kk = 0 by omega]; rfl
    rw [val_trim, hv] at h1
    rw [decide_eq_false h0, Bool.and_false, h1]
    unfold sg
    split <;> simp

theorem own_not_cell {w : World} {B E G N c n g : Nat} {xs : List Value} {cs : Array Value} {T : TypeId} {f : Nat × Nat} (h : w.ownsRow B E 1 (.slice (some ⟨G, 0, none⟩) (N + 1) c) n xs) (hO : w.heap[g]? = some (.cells cs T f)) (e : g = G) (hne : E ≠ T) : False := by
  subst e
  rcases h.2 with ⟨h1, _⟩ | ⟨g', cap, cur, h1, _, h2, _⟩
  · cases h1
  · injection h1 with h1
    injection h1 with h1
    injection h1 with h1
    subst h1
    exact heap_ne h2 hO hne rfl

/-- What the statement with the make leaves. -/
def Made6 (w : World) (N : Nat) (b : Bool) (X Y R : Obj) (v : Value) (wx : World) : Prop :=
  ∃ G O : Nat, v = .pointer (some ⟨O, 0, none⟩) ∧ w.heap.size + 1 + 1 < G ∧ w.heap.size + 1 + 1 < O ∧ wx.ownsRow (w.heap.size + 1 + 1 + 1) 3 1 (.slice (some ⟨G, 0, none⟩) N N) N (digV .i64 (List.replicate N 0)) ∧
    wx.heap[O]? = some (.cells #[.bool b, .slice (some ⟨G, 0, none⟩) N N] 61 (0, 0)) ∧ wx.heap[w.heap.size]? = some X ∧ wx.heap[w.heap.size + 1]? = some Y ∧ wx.heap[w.heap.size + 1 + 1]? = some R ∧ Below w.heap.size w wx

theorem made6_a {w w1 : World} {N : Nat} {b : Bool} {X Y R : Obj} (hz : w1.heap.size = w.heap.size + 1 + 1 + 1) (hX : w1.heap[w.heap.size]? = some X) (hY : w1.heap[w.heap.size + 1]? = some Y) (hR : w1.heap[w.heap.size + 1 + 1]? = some R) (hB : Below w.heap.size w w1) (hN : N ≤ 100000) :
    Made6 w N b X Y R (.pointer (some ⟨w.heap.size + 1 + 1 + 1 + 1, 0, none⟩)) ((w1.alloc (.cells (madeCells #[Value.int .i64 0] N) 3)).alloc (.cells #[.bool b, .slice (some ⟨w.heap.size + 1 + 1 + 1, 0, none⟩) N N] 61)).drew := by
  have h := own_zeros w1 (w.heap.size + 1 + 1 + 1) N (by omega) hN
  rw [hz] at h
  exact ⟨w.heap.size + 1 + 1 + 1, w.heap.size + 1 + 1 + 1 + 1, rfl, by omega, by omega, h.alloc _, heap_new _ _ (by simp; omega), heap_old (heap_old hX _) _, heap_old (heap_old hY _) _, heap_old (heap_old hR _) _, ((hB.alloc (by omega) _).alloc (by simp; omega) _).drew⟩
theorem made6_b {w w1 : World} {N : Nat} {b : Bool} {X Y R : Obj} (hz : w1.heap.size = w.heap.size + 1 + 1 + 1) (hX : w1.heap[w.heap.size]? = some X) (hY : w1.heap[w.heap.size + 1]? = some Y) (hR : w1.heap[w.heap.size + 1 + 1]? = some R) (hB : Below w.heap.size w w1) (hN : N ≤ 100000) :
    Made6 w N b X Y R (.pointer (some ⟨w.heap.size + 1 + 1 + 1, 0, none⟩)) ((w1.alloc (.cells #[.bool b, .slice (some ⟨w.heap.size + 1 + 1 + 1 + 1, 0, none⟩) N N] 61)).alloc (.cells (madeCells #[Value.int .i64 0] N) 3)).drew := by
  have h := own_zeros (w1.alloc (.cells #[.bool b, .slice (some ⟨w.heap.size + 1 + 1 + 1 + 1, 0, none⟩) N N] 61)) (w.heap.size + 1 + 1 + 1) N (by simp; omega) hN
  rw [World.size_alloc, hz] at h
  exact ⟨w.heap.size + 1 + 1 + 1 + 1, w.heap.size + 1 + 1 + 1, rfl, by omega, by omega, h, heap_old (heap_new _ _ (by omega)) _, heap_old (heap_old hX _) _, heap_old (heap_old hY _) _, heap_old (heap_old hR _) _, ((hB.alloc (by omega) _).alloc (by simp; omega) _).drew⟩

set_option maxHeartbeats 4000000 in
set_option maxRecDepth 100000 in
theorem timesof_r (w : World) {s t : Bool} {A B : Option Addr} {n c k d : Nat} {x y : Int} (ha : Big .i64 3 B6 w s A n c x) (hb : Big .i64 3 B6 w t B k d y) (sx : Small x) (sy : Small y) :
    Calls Tryz.prog 50 #[.agg #[.bool s, .slice A n c], .agg #[.bool t, .slice B k d]] w (Makes .i64 3 B6 w (x * y)) := by
  obtain ⟨l, hd, hnc, hcm, gl, nl, sl, rfl⟩ := ha
  obtain ⟨m, he, hkd, hdm, gm, nm, sm, rfl⟩ := hb
  have hl := hd.1
  have hm := he.1
  have h1 := small_len6 nl sx
  have h2 := small_len6 nm sy
  have HL := Lib.hid hl; have HM := Lib.hid hm
  rw [hl] at h1
  rw [hm] at h2
  clear hl hm
  have hmk := run_make_row' (P := Tryz.prog) 49 3 (.int .i64 0) 8 Tryz.underlying49 Tryz.info3 rfl .i64 .i64 (n + k + 1) (by omega) (by omega)
  have ec : ((n + k + 1 : Nat) : Int) = (n : Int) + (k : Int) + 1 := by omega
  rw [ec] at hmk
  clear ec
  go_enter Tryz.func50, Tryz.ntmps50
  go_upto_region 1 with fail
  generalize hw1 : ((w.alloc (Obj.cells #[Value.bool s, Value.slice A n c] 61)).alloc (Obj.cells #[Value.bool t, Value.slice B k d] 61)).alloc (Obj.cells #[Value.bool false, Value.slice none 0 0] 61) = w1
  obtain ⟨hX, hY, hR, hB⟩ := boxes3 _ _ _ _ _ _ _ _ _ _ w1 hw1
  have hz1 : w1.heap.size = w.heap.size + 1 + 1 + 1 := by rw [← hw1]; simp
  clear hw1
  obtain ⟨x0, x1, x2, x3, x4⟩ := box2 hX
  obtain ⟨y0, y1, y2, y3, y4⟩ := box2 hY
  go_cut [5] (fun v wx => Made6 w (n + k + 1) (!s == t) (.cells #[.bool s, .slice A n c] 61 (0, 0)) (.cells #[.bool t, .slice B k d] 61 (0, 0)) (.cells #[.bool false, .slice none 0 0] 61 (0, 0)) v wx)
  case first =>
    go_region
    all_goals
      go_wp2_with fail
      go_meet
      first
        | exact made6_a hz1 hX hY hR hB (by omega)
        | exact made6_b hz1 hX hY hR hB (by omega)
  case rest =>
    obtain ⟨G, O, rfl, hG, hO1, hown, hO, hX, hY, hR, hB⟩ := hcut
    clear hmk x0 x1 x2 x3 x4 y0 y1 y2 y3 y4 hz1
    obtain ⟨x0, x1, -, -, -⟩ := box2 hX
    obtain ⟨y0, y1, -, -, -⟩ := box2 hY
    go_wp2_with fail
    go_loopw [29] (fun i wr => ∃ (j : Nat) (os : List Nat), j ≤ n ∧ i = .int .i64 j ∧ wr.ownsRow (w.heap.size + 1 + 1 + 1) 3 1 (.slice (some ⟨G, 0, none⟩) (n + k + 1) (n + k + 1)) (n + k + 1) (digV .i64 os) ∧ Btw os j k ∧ val B6 os = val B6 (l.take j) * val B6 m ∧
      wr.heap[O]? = some (.cells #[.bool (!s == t), .slice (some ⟨G, 0, none⟩) (n + k + 1) (n + k + 1)] 61 (0, 0)) ∧ wr.heap[w.heap.size]? = some (.cells #[.bool s, .slice A n c] 61 (0, 0)) ∧ wr.heap[w.heap.size + 1]? = some (.cells #[.bool t, .slice B k d] 61 (0, 0)) ∧ wr.heap[w.heap.size + 1 + 1]? = some (.cells #[.bool false, .slice none 0 0] 61 (0, 0)) ∧ Below w.heap.size w wr) (fun i _ => n - (intOf i).toNat)
    case atStart => exact ⟨0, _, Nat.zero_le _, rfl, hown, ⟨fun p => by rw [dg_zeros]; omega, fun p _ => dg_zeros _ _⟩, by rw [val_zeros]; simp [val], hO, hX, hY, hR, hB⟩
    case round =>
      clear hown hO hX hY hR hB x0 x1 y0 y1
      obtain ⟨j, os, hj, rfl, hown, hbtw, hval, hO, hX, hY, hR, hB⟩ := hrel
      have HV := Lib.hid hval; have HT := Lib.hid hbtw; clear hval hbtw
      obtain ⟨x0, x1, -, -, -⟩ := box2 hX
      obtain ⟨y0, y1, -, -, -⟩ := box2 hY
      rcases Nat.lt_or_ge j n with hjn | hjn
      · obtain ⟨g, rfl, hg, hc1⟩ := hd.at_ (by omega)
        have hx := (hB.cell (p := ⟨g, j, none⟩) hg).trans (hc1 j hjn)
        clear hc1
        have b1 : dg l j < 1000000 := dg_lt gl (by decide) j
        go_wp2_with fail
        obtain ⟨wo, rfl⟩ : ∃ wo : World, wo = wr := ⟨_, rfl⟩
        go_loopw [37] (fun i wr => ∃ (q : Nat) (ps : List Nat), q ≤ k ∧ i = .int .i64 q ∧ wr.ownsRow (w.heap.size + 1 + 1 + 1) 3 1 (.slice (some ⟨G, 0, none⟩) (n + k + 1) (n + k + 1)) (n + k + 1) (digV .i64 ps) ∧ Mid ps j k q ∧ val B6 ps = val B6 (l.take j) * val B6 m + B6 ^ j * (dg l j * val B6 (m.take q)) ∧
          wr.heap[O]? = some (.cells #[.bool (!s == t), .slice (some ⟨G, 0, none⟩) (n + k + 1) (n + k + 1)] 61 (0, 0)) ∧ wr.heap[w.heap.size]? = some (.cells #[.bool s, .slice (some ⟨g, 0, none⟩) n c] 61 (0, 0)) ∧ wr.heap[w.heap.size + 1]? = some (.cells #[.bool t, .slice B k d] 61 (0, 0)) ∧ wr.heap[w.heap.size + 1 + 1]? = some (.cells #[.bool false, .slice none 0 0] 61 (0, 0)) ∧ Below w.heap.size w wr) (fun i _ => k - (intOf i).toNat)
        case atStart => exact ⟨0, os, Nat.zero_le _, rfl, hown, HT.out.mid, by rw [HV.out]; simp [val], hO, hX, hY, hR, hB⟩
        case round =>
          clear hown hO hX hY hR hB x0 x1 y0 y1 hx
          obtain ⟨q, ps, hq, rfl, hown, hmid, hval, hO, hX, hY, hR, hB⟩ := hrel
          have HV := Lib.hid hval; have HP := Lib.hid hmid; clear hval hmid
          obtain ⟨o0, o1, -, -, -⟩ := box2 hO
          rcases Nat.lt_or_ge q k with hqk | hqk
          · obtain ⟨g', rfl, hg', hc1⟩ := he.at_ (by omega)
            have hy := (hB.cell (p := ⟨g', q, none⟩) hg').trans (hc1 q hqk)
            clear hc1
            have b2 : dg m q < 1000000 := dg_lt gm (by decide) q
            have hlen := row_len6 hown
            have HP2 := Lib.hid (HP.out.step hqk (by omega) b1 b2)
            have HV2 := Lib.hid (times_row (m := m) (by omega) HV.out)
            have b3 : dg ps (j + q) ≤ 2000000 := HP.out.2.1
            have b4 : dg ps (j + q + 1) ≤ 1000000 := HP.out.1 _ (by omega)
            have hP : ((dg l j : Nat) : Int) * ((dg m q : Nat) : Int) ≤ 999998000001 := by
              have : dg l j * dg m q ≤ 999999 * 999999 := Nat.mul_le_mul (by omega) (by omega)
              rw [← Int.natCast_mul]; omega
            have hP0 : (0 : Int) ≤ ((dg l j : Nat) : Int) * ((dg m q : Nat) : Int) := by rw [← Int.natCast_mul]; omega
            have hz := row_cell6 hown (p := j + q) (by omega)
            have hz2 := row_cell6 hown (p := j + q + 1) (by omega)
            have hf := hown.frozenAt (j + q)
            have hf2 := hown.frozenAt (j + q + 1)
            have i1 : ((j : Int) + (q : Int)) < ((n + k + 1 : Nat) : Int) := by omega
            have i2 : ((j : Int) + (q : Int) + 1) < ((n + k + 1 : Nat) : Int) := by omega
            have HLEN := Lib.hid hlen; clear hlen
            obtain ⟨T, hT⟩ : ∃ T, T = dg ps (j + q) + dg l j * dg m q := ⟨_, rfl⟩
            have hTI : ((dg ps (j + q) : Nat) : Int) + ((dg l j : Nat) : Int) * ((dg m q : Nat) : Int) = (T : Int) := by rw [hT]; simp
            have hTb : T ≤ 1000000000001 := by omega
            have HT2 := Lib.hid hT; have HTI := Lib.hid hTI
            obtain ⟨V, hV⟩ : ∃ V, V = dg ps (j + q + 1) := ⟨_, rfl⟩
            have HVV := Lib.hid hV
            rw [← hV] at b4
            clear hT hTI hV
            go_wp2_with fail
            rw [HTI.out]
            have hown2 := row_store6 hown (j + q) (X := (T : Int)) rfl
            have hO2 := heap_far hO (p := ⟨G, j + q, none⟩) (u := .int .i64 (T : Int)) (fun e => own_not_cell hown hO e (by decide))
            have hX2 := heap_far hX (p := ⟨G, j + q, none⟩) (by dsimp only; omega) (.int .i64 (T : Int))
            have hY2 := heap_far hY (p := ⟨G, j + q, none⟩) (by dsimp only; omega) (.int .i64 (T : Int))
            have hR2 := heap_far hR (p := ⟨G, j + q, none⟩) (by dsimp only; omega) (.int .i64 (T : Int))
            have hB2 := hB.setCell (p := ⟨G, j + q, none⟩) (by dsimp only; omega) (.int .i64 (T : Int))
            generalize wr.setCell ⟨G, j + q, none⟩ (.int .i64 (T : Int)) = w2 at hown2 hO2 hX2 hY2 hR2 hB2 ⊢
            clear hown hO hX hY hR hB hy hz hz2 hf hf2 o0 o1
            have hz := row_cell6 hown2 (p := j + q) (by omega)
            have hz2 := row_cell6 hown2 (p := j + q + 1) (by omega)
            rw [dg_set_eq (by rw [HLEN.out]; omega)] at hz
            rw [dg_set_ne (by omega), ← HVV.out] at hz2
            have hf := hown2.frozenAt (j + q)
            have hf2 := hown2.frozenAt (j + q + 1)
            obtain ⟨o0, o1, -, -, -⟩ := box2 hO2
            go_region
            have hown3 := row_store6 hown2 (j + q + 1) (X := (V : Int) + (T : Int) / 1000000) (x := V + T / B6) (by unfold B6; omega)
            have hO3 := heap_far hO2 (p := ⟨G, j + q + 1, none⟩) (u := .int .i64 ((V : Int) + (T : Int) / 1000000)) (fun e => own_not_cell hown2 hO2 e (by decide))
            have hX3 := heap_far hX2 (p := ⟨G, j + q + 1, none⟩) (by dsimp only; omega) (.int .i64 ((V : Int) + (T : Int) / 1000000))
            have hY3 := heap_far hY2 (p := ⟨G, j + q + 1, none⟩) (by dsimp only; omega) (.int .i64 ((V : Int) + (T : Int) / 1000000))
            have hR3 := heap_far hR2 (p := ⟨G, j + q + 1, none⟩) (by dsimp only; omega) (.int .i64 ((V : Int) + (T : Int) / 1000000))
            have hB3 := hB2.setCell (p := ⟨G, j + q + 1, none⟩) (by dsimp only; omega) (.int .i64 ((V : Int) + (T : Int) / 1000000))
            have hown3 : ((w2.setCell ⟨G, j + q + 1, none⟩ (.int .i64 ((V : Int) + (T : Int) / 1000000))).drew).ownsRow (w.heap.size + 1 + 1 + 1) 3 1 (.slice (some ⟨G, 0, none⟩) (n + k + 1) (n + k + 1)) (n + k + 1) (digV .i64 ((ps.set (j + q) T).set (j + q + 1) (V + T / B6))) := by exact hown3
            have hO3 : ((w2.setCell ⟨G, j + q + 1, none⟩ (.int .i64 ((V : Int) + (T : Int) / 1000000))).drew).heap[O]? = some (.cells #[.bool (!s == t), .slice (some ⟨G, 0, none⟩) (n + k + 1) (n + k + 1)] 61 (0, 0)) := by exact hO3
            have hX3 : ((w2.setCell ⟨G, j + q + 1, none⟩ (.int .i64 ((V : Int) + (T : Int) / 1000000))).drew).heap[w.heap.size]? = some (.cells #[.bool s, .slice (some ⟨g, 0, none⟩) n c] 61 (0, 0)) := by exact hX3
            have hY3 : ((w2.setCell ⟨G, j + q + 1, none⟩ (.int .i64 ((V : Int) + (T : Int) / 1000000))).drew).heap[w.heap.size + 1]? = some (.cells #[.bool t, .slice (some ⟨g', 0, none⟩) k d] 61 (0, 0)) := by exact hY3
            have hR3 : ((w2.setCell ⟨G, j + q + 1, none⟩ (.int .i64 ((V : Int) + (T : Int) / 1000000))).drew).heap[w.heap.size + 1 + 1]? = some (.cells #[.bool false, .slice none 0 0] 61 (0, 0)) := by exact hR3
            have hB3 := hB3.drew
            generalize (w2.setCell ⟨G, j + q + 1, none⟩ (.int .i64 ((V : Int) + (T : Int) / 1000000))).drew = w3 at hown3 hO3 hX3 hY3 hR3 hB3 ⊢
            clear hown2 hO2 hX2 hY2 hR2 hB2 hz hz2 hf hf2 o0 o1
            have hz := row_cell6 hown3 (p := j + q) (by omega)
            rw [dg_set_ne (by omega), dg_set_eq (by rw [HLEN.out]; omega)] at hz
            have hf := hown3.frozenAt (j + q)
            obtain ⟨o0, o1, -, -, -⟩ := box2 hO3
            go_wp2
            go_roundw
            case rel =>
              have hown4 := row_store6 hown3 (j + q) (X := (T : Int) % 1000000) (x := T % B6) (by unfold B6; omega)
              have e : ((ps.set (j + q) T).set (j + q + 1) (V + T / B6)).set (j + q) (T % B6) = mulS ps (j + q) (dg l j * dg m q) := by unfold mulS; rw [← HT2.out, ← HVV.out]
              rw [e] at hown4
              exact ⟨q + 1, _, by omega, by go_num, hown4, HP2.out, HV2.out, heap_far hO3 (fun e => own_not_cell hown3 hO3 e (by decide)) _, heap_far hX3 (by dsimp only; omega) _, heap_far hY3 (by dsimp only; omega) _, heap_far hR3 (by dsimp only; omega) _, hB3.setCell (by dsimp only; omega) _⟩
            case measure => simp [intOf]; omega
          · obtain rfl : q = k := by omega
            go_wp2
            go_roundw
            case rel => exact ⟨j + 1, ps, by omega, by go_num, hown, HP.out.btw, times_next HM.out HV.out, hO, hX, hY, hR, hB⟩
            case measure => simp [intOf]; omega
      · obtain rfl : j = n := by omega
        have hfin0 : Fin_ os 0 := ⟨fun p hp => by omega, fun p _ => HT.out.1 p, by have := HT.out.1 0; omega⟩
        have HF := Lib.hid hfin0; clear hfin0
        have hval0 : val B6 os = val B6 l * val B6 m := by rw [HV.out, show l.take j = l from List.take_of_length_le (by rw [HL.out]; exact Nat.le_refl _)]
        have HV0 := Lib.hid hval0; clear hval0
        obtain ⟨o0, o1, -, -, -⟩ := box2 hO
        go_wp2_with fail
        obtain ⟨wo, rfl⟩ : ∃ wo : World, wo = wr := ⟨_, rfl⟩
        go_loopw [87] (fun i wr => ∃ (q : Nat) (ps : List Nat), q ≤ j + k ∧ i = .int .i64 q ∧ wr.ownsRow (w.heap.size + 1 + 1 + 1) 3 1 (.slice (some ⟨G, 0, none⟩) (j + k + 1) (j + k + 1)) (j + k + 1) (digV .i64 ps) ∧ Hid (Fin_ ps q) ∧ Hid (val B6 ps = val B6 l * val B6 m) ∧
          wr.heap[O]? = some (.cells #[.bool (!s == t), .slice (some ⟨G, 0, none⟩) (j + k + 1) (j + k + 1)] 61 (0, 0)) ∧ wr.heap[w.heap.size + 1 + 1]? = some (.cells #[.bool false, .slice none 0 0] 61 (0, 0)) ∧ Below w.heap.size w wr) (fun i _ => j + k - (intOf i).toNat)
        case atStart => exact ⟨0, os, Nat.zero_le _, rfl, hown, HF, HV0, hO, hR, hB⟩
        case round =>
          clear hown hO hX hY hR hB x0 x1 y0 y1 o0 o1
          obtain ⟨q, ps, hq, rfl, hown, HP, HVP, hO, hR, hB⟩ := hrel
          obtain ⟨o0, o1, -, -, -⟩ := box2 hO
          have hlen := row_len6 hown
          have HLEN := Lib.hid hlen
          rcases Nat.lt_or_ge q (j + k) with hqk | hqk
          · have HP2 := Lib.hid (HP.out.step (by omega))
            have HV2 := Lib.hid ((carry_val (os := ps) (r := q) (by omega)).trans HVP.out)
            have b3 : dg ps q ≤ 2000000 := HP.out.2.2
            have b4 : dg ps (q + 1) ≤ 1000000 := HP.out.2.1 _ (by omega)
            obtain ⟨T, hT⟩ : ∃ T, T = dg ps q := ⟨_, rfl⟩
            obtain ⟨V, hV⟩ : ∃ V, V = dg ps (q + 1) := ⟨_, rfl⟩
            have hz := row_cell6 hown (p := q) (by omega)
            have hz2 := row_cell6 hown (p := q + 1) (by omega)
            rw [← hT] at b3 hz
            rw [← hV] at b4 hz2
            have HT2 := Lib.hid hT; have HVV := Lib.hid hV
            clear hT hV hlen
            have hf := hown.frozenAt q
            have hf2 := hown.frozenAt (q + 1)
            have i1 : (q : Int) < ((j + k + 1 : Nat) : Int) := by omega
            have i2 : ((q : Int) + 1) < ((j + k + 1 : Nat) : Int) := by omega
            have i3 : (q : Int) < (j : Int) + (k : Int) := by omega
            go_wp2_with fail
            go_region
            have hown3 : ((wr.setCell ⟨G, q + 1, none⟩ (.int .i64 ((V : Int) + (T : Int) / 1000000))).drew).ownsRow (w.heap.size + 1 + 1 + 1) 3 1 (.slice (some ⟨G, 0, none⟩) (j + k + 1) (j + k + 1)) (j + k + 1) (digV .i64 (ps.set (q + 1) (V + T / B6))) := by exact row_store6 hown (q + 1) (X := (V : Int) + (T : Int) / 1000000) (x := V + T / B6) (by unfold B6; omega)
            have hO3 : ((wr.setCell ⟨G, q + 1, none⟩ (.int .i64 ((V : Int) + (T : Int) / 1000000))).drew).heap[O]? = some (.cells #[.bool (!s == t), .slice (some ⟨G, 0, none⟩) (j + k + 1) (j + k + 1)] 61 (0, 0)) := by exact heap_far hO (p := ⟨G, q + 1, none⟩) (u := .int .i64 ((V : Int) + (T : Int) / 1000000)) (fun e => own_not_cell hown hO e (by decide))
            have hR3 : ((wr.setCell ⟨G, q + 1, none⟩ (.int .i64 ((V : Int) + (T : Int) / 1000000))).drew).heap[w.heap.size + 1 + 1]? = some (.cells #[.bool false, .slice none 0 0] 61 (0, 0)) := by exact heap_far hR (p := ⟨G, q + 1, none⟩) (by dsimp only; omega) (.int .i64 ((V : Int) + (T : Int) / 1000000))
            have hB3 := (hB.setCell (p := ⟨G, q + 1, none⟩) (by dsimp only; omega) (.int .i64 ((V : Int) + (T : Int) / 1000000))).drew
            generalize (wr.setCell ⟨G, q + 1, none⟩ (.int .i64 ((V : Int) + (T : Int) / 1000000))).drew = w3 at hown3 hO3 hR3 hB3 ⊢
            clear hown hO hR hB hz hz2 hf hf2 o0 o1
            have hz := row_cell6 hown3 (p := q) (by omega)
            rw [dg_set_ne (by omega), ← HT2.out] at hz
            have hf := hown3.frozenAt q
            obtain ⟨o0, o1, -, -, -⟩ := box2 hO3
            go_wp2
            go_roundw
            case rel =>
              have hown4 := row_store6 hown3 q (X := (T : Int) % 1000000) (x := T % B6) (by unfold B6; omega)
              have e : (ps.set (q + 1) (V + T / B6)).set q (T % B6) = carS ps q := by unfold carS; rw [← HT2.out, ← HVV.out]
              rw [e] at hown4
              exact ⟨q + 1, _, by omega, by go_num, hown4, HP2, HV2, heap_far hO3 (fun e => own_not_cell hown3 hO3 e (by decide)) _, heap_far hR3 (by dsimp only; omega) _, hB3.setCell (by dsimp only; omega) _⟩
            case measure => simp [intOf]; omega
          · obtain rfl : q = j + k := by omega
            have hlt : val B6 ps < B6 ^ (j + k) := by
              rw [HVP.out, Nat.pow_add]
              have h1 := val_lt gl
              have h2 := val_lt gm
              rw [HL.out] at h1
              rw [HM.out] at h2
              exact Nat.mul_lt_mul'' h1 h2
            have gos := HP.out.digs hlen hlt
            clear hlt hlen
            go_wp2_with fail
            refine (trimmed_r ps (!s == t) _ (j + k + 1) (j + k + 1) _ (Dig.of_own hown) (own_cap hown).1 (own_cap hown).2).mono ?_
            rintro e w2 ⟨hb2, kk, hkk, htk, rfl⟩
            have hR2 := heap_below hR hb2
            obtain ⟨g0, g1, g2, g3, g4⟩ := box2 hR2
            go_wp2
            have hd0 := (Dig.of_own hown).below hb2
            refine bodyPost_ret (v := .agg #[.bool ((!s == t) && decide (0 < kk)), .slice (some ⟨G, 0, none⟩) kk (j + k + 1)]) (by simp [results, Tryz.results50, go_sem, g0, g1]) rfl ⟨_, _, _, _, rfl, Big.box2 (K := .i64) ⟨trim ps, htk ▸ hd0.take hkk, by omega, (own_cap hown).2, digs_trim gos, norm_trim _, trim_ne htk HLEN.out, times_sg htk HVP.out⟩ hR2 (by decide) _ _, ((below_then hb2 hB hB.size).setCell (by dsimp only; omega) _).setCell (by dsimp only; omega) _⟩

end Go.Proofs.YtegobkaldedhhaaGreatDoor
