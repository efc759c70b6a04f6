
/- The walk of package interchangeref1: Shares, where it comes to shares. -/
import Derived.Test.YtegabimiegdcjaaS13
namespace Go.Proofs.Ytegabimiegdcjaa
open Go.RowKit Limb Work Stab
set_option linter.unusedVariables false
set_option linter.unusedSimpArgs false

def ShTo (u p : Int) (ws : List Int) (f : Nat → Nat) (w : World) (e : Ending) (w' : World) : Prop :=
  ∃ b, e = .returned (.tuple #[.slice (some ⟨b, 0, none⟩) ws.length ws.length, .int .i64 0]) ∧ b < w'.heap.size ∧
    (∀ x, x < ws.length → w'.cell? ⟨b, f x * 2, none⟩ = some (.int .i64 (outV u ws f x)) ∧ w'.cell? ⟨b, f x * 2 + 1, none⟩ = some (.int .i64 p)) ∧ Below w.heap.size w w'

theorem madeCells_at {z : Array Value} {n i : Nat} {v : Value} (hi : i < n) (hz : z[i % z.size]? = some v) : (madeCells z n)[i]? = some v := by
  unfold madeCells
  rw [Array.getElem?_map, Array.getElem?_range, if_pos hi]
  simp [getElem!_def, hz]
theorem rst_made {w w1 : World} {u p : Int} {n : Nat} (hD : w1.heap[w.heap.size]? = some (.cells #[.int .i64 u, .int .i64 p] 23 (0, 0))) (hB : Below w.heap.size w w1) :
    RSt w u p w1.heap.size (w1.heap.size + 1) n (fun _ => 0) (fun _ => 0) (fun _ => 0) ((w1.alloc (.cells (madeCells #[.int .i64 0, .int .i64 0] (n * 2)) 23)).alloc (.cells (madeCells #[.int .i64 0] n) 3)) := by
  have hl := lt_heap hD
  have h1 : ((w1.alloc (.cells (madeCells #[.int .i64 0, .int .i64 0] (n * 2)) 23)).alloc (.cells (madeCells #[.int .i64 0] n) 3)).heap[w1.heap.size]? = some (.cells (madeCells #[.int .i64 0, .int .i64 0] (n * 2)) 23 (0, 0)) := heap_old (heap_new _ _ rfl) _
  have h2 : ((w1.alloc (.cells (madeCells #[.int .i64 0, .int .i64 0] (n * 2)) 23)).alloc (.cells (madeCells #[.int .i64 0] n) 3)).heap[w1.heap.size + 1]? = some (.cells (madeCells #[.int .i64 0] n) 3 (0, 0)) := heap_new _ _ (by simp)
  refine ⟨⟨_, h1⟩, ⟨_, h2⟩, heap_old (heap_old hD _) _, fun x hx => ⟨?_, ?_⟩, fun x hx => ?_, by go_grown, hl, by omega, by omega⟩
  · exact (cell_of_row _ _ _ _ _ _ h1).trans (madeCells_at (by omega) (by rw [show x * 2 % (#[Value.int .i64 0, Value.int .i64 0] : Array Value).size = 0 by simp]; rfl))
  · exact (cell_of_row _ _ _ _ _ _ h1).trans (madeCells_at (by omega) (by rw [show (x * 2 + 1) % (#[Value.int .i64 0, Value.int .i64 0] : Array Value).size = 1 by simp <;> omega]; rfl))
  · exact (cell_of_row _ _ _ _ _ _ h2).trans (madeCells_at hx (by rw [show x % (#[Value.int .i64 0] : Array Value).size = 0 by simp [Nat.mod_one]]; rfl))
theorem upd_lt {α : Type} {n : Nat} (i : Nat) (t : Nat → α) (z : α) : ∀ x, x < n → (if x < i + 1 then t x else z) = upd (fun x => if x < i then t x else z) i (t i) x := fun x _ => by
  unfold upd
  by_cases h : x = i
  · subst h; rw [if_pos rfl, if_pos (by omega)]
  · rw [if_neg h]
    show _ = (if x < i then t x else z)
    by_cases h2 : x < i
    · rw [if_pos h2, if_pos (by omega)]
    · rw [if_neg h2, if_neg (by omega)]

/-- The units and the rests after k places have got one more. -/
def tS (U S : Nat) (ws : List Int) (g : Nat → Nat) (k j : Nat) : Int := ((shQ U S ws j + if g j < k then 1 else 0 : Nat) : Int)
def rS (U S : Nat) (ws : List Int) (g : Nat → Nat) (k j : Nat) : Int := if g j < k then -1 else ((shR U S ws j : Nat) : Int)
theorem g_next {n k x : Nat} {f g : Nat → Nat} (hg : ∀ x, x < n → f x < n ∧ g x < n ∧ f (g x) = x ∧ g (f x) = x) (hk : k < n) (hx : x < n) : (x = f k → g x = k) ∧ (x ≠ f k → (g x < k + 1 ↔ g x < k)) := by
  refine ⟨fun e => by rw [e]; exact (hg k hk).2.2.2, fun hne => ?_⟩
  have : g x ≠ k := fun e => hne (by rw [← e]; exact (hg x hx).2.2.1.symm)
  omega
theorem tS_next {U S : Nat} {ws : List Int} {n k : Nat} {f g : Nat → Nat} (hg : ∀ x, x < n → f x < n ∧ g x < n ∧ f (g x) = x ∧ g (f x) = x) (hk : k < n) : ∀ x, x < n → tS U S ws g (k + 1) x = upd (tS U S ws g k) (f k) (((shQ U S ws (f k) : Nat) : Int) + 1) x := fun x hx => by
  obtain ⟨h1, h2⟩ := g_next hg hk hx
  unfold upd
  by_cases h : x = f k
  · rw [if_pos h]; unfold tS; rw [h1 h, if_pos (Nat.lt_succ_self k), h]; rfl
  · rw [if_neg h]; unfold tS; simp only [h2 h]
theorem rS_next {U S : Nat} {ws : List Int} {n k : Nat} {f g : Nat → Nat} (hg : ∀ x, x < n → f x < n ∧ g x < n ∧ f (g x) = x ∧ g (f x) = x) (hk : k < n) : ∀ x, x < n → rS U S ws g (k + 1) x = upd (rS U S ws g k) (f k) (-1) x := fun x hx => by
  obtain ⟨h1, h2⟩ := g_next hg hk hx
  unfold upd
  by_cases h : x = f k
  · rw [if_pos h]; unfold rS; rw [h1 h, if_pos (Nat.lt_succ_self k)]
  · rw [if_neg h]; unfold rS; simp only [h2 h]

theorem neg_lt (i : Nat) (t : Nat → Int) (x : Nat) : (if x < i + 1 then -(t x) else t x) = upd (fun x => if x < i then -(t x) else t x) i (-(t i)) x := by
  unfold upd
  by_cases h : x = i
  · subst h; rw [if_pos rfl, if_pos (by omega)]
  · rw [if_neg h]
    show _ = (if x < i then -(t x) else t x)
    by_cases h2 : x < i
    · rw [if_pos h2, if_pos (by omega)]
    · rw [if_neg h2, if_neg (by omega)]
theorem rst_end {w wx : World} {u p : Int} {Bo Br n : Nat} {T R : Nat → Int} {ws : List Int} {f : Nat → Nat} (h : RSt w u p Bo Br n T (fun _ => p) R wx) (hT : ∀ x, x < n → T (f x) = outV u ws f x) (hl : ws.length = n) (hg : ∀ x, x < n → f x < n) :
    ShTo u p ws f w (.returned (.tuple #[.slice (some ⟨Bo, 0, none⟩) n n, .int .i64 0])) wx := by
  obtain ⟨co, hco⟩ := h.row
  refine ⟨Bo, by rw [hl], lt_heap hco, fun x hx => ?_, h.bel⟩
  rw [hl] at hx
  rw [← hT x hx]
  exact h.out (f x) (hg x hx)

set_option maxHeartbeats 8000000 in
set_option maxRecDepth 100000 in
theorem rshares_ok (u p : Int) (ws : List Int) (A : Option Addr) (n c : Nat) (w : World) (h : decB u p = true) (hI : Ints w A n ws) (hn : n ≤ 9223372036854775807) (hf : wtF ws = 0) (f : Nat → Nat) (hB : Bij ws.length f) (hSr : Srt (shR u.natAbs (sumW ws ws.length).toNat ws) f 0 ws.length) :
    Calls Try.prog 26 #[.agg #[.int .i64 u, .int .i64 p], .slice A n c] w (ShTo u p ws f w) := by
  obtain ⟨m1, m2⟩ := more_rest hf hB hSr
  clear m1
  obtain ⟨hn0, hn1, hok, hS⟩ := wtF_ok hf
  have hl := hI.1
  rw [hl] at hn0 hn1 hok hS hB hSr m2
  obtain ⟨S, hSe⟩ : ∃ S : Nat, sumW ws n = (S : Int) := ⟨(sumW ws n).toNat, by omega⟩
  have hS0 : 0 < S := by omega
  have hSn2 : (sumW ws n).toNat = S := by omega
  rw [hSn2] at m2 hSr
  have hdec := decB_out h
  have hSn : (S : Int) ≤ n * 1000000000 := by rw [← hSe]; exact (sumW_rng n (by omega) hok).2
  have HWL : Hid (∀ j, j < n → 0 ≤ hol ws j ∧ (hol ws j).toNat ≤ S ∧ hol ws j ≤ 1000000000) := fun j hj => by
    have h1 := w_le n (by omega) hok j hj
    have h2 := hok j hj
    omega
  have HRNG : Hid (∀ j, j ≤ n → 0 ≤ sumW ws j ∧ sumW ws j ≤ j * 1000000000) := fun j hj => sumW_rng j (by omega) (fun p hp => hok p (by omega))
  have HST : Hid (∀ j, j < n → sumW ws (j + 1) = sumW ws j + hol ws j) := fun j hj => sumW_step (by omega)
  have HQL : Hid (∀ j, j ≤ n → ∀ U, sumQ U S ws j ≤ U) := fun j hj U => sumQ_le hS0 j (by omega) (fun p hp => hok p (by omega)) (by have := sumW_mono hj (by omega) hok; omega)
  have HSE := Lib.hid hSe
  have H := Lib.hid h
  have HI := Lib.hid hI
  have HL := Lib.hid hl
  obtain ⟨d1, d2, d3, d4⟩ := hdec
  obtain ⟨U, hU⟩ : ∃ U, U = u.natAbs := ⟨_, rfl⟩
  rw [← hU] at m2 hSr
  obtain ⟨L, hL⟩ : ∃ L, L = U - sumQ U S ws n := ⟨_, rfl⟩
  rw [← hL] at m2
  have hUb : U ≤ 1000000000000000 := by omega
  have HU := Lib.hid hU; have HLL := Lib.hid hL; have HSR := Lib.hid hSr; have HBJ := Lib.hid hB; have HS2 := Lib.hid hSn2
  have hz : (((n : Nat) : Int) == 0) = false := by rw [beq_eq_false_iff_ne]; omega
  have hz1 : ¬ (1000 : Int) < ((n : Nat) : Int) := by omega
  have hz2 : (((S : Nat) : Int) == 0) = false := by rw [beq_eq_false_iff_ne]; omega
  clear h hI hf hl hok hSe hU hL hSr hB hSn2 hS
  go_enter Try.func26, Try.ntmps26
  go_wp2_with fail
  refine (rchk_ok _ _ _ H.out).mono ?_
  rintro e w1 ⟨rfl, hb1⟩
  have hD1 := heap_below (heap_new w (.cells #[.int .i64 u, .int .i64 p] 23) rfl) hb1
  have hbel := below_then hb1 (B := w.heap.size) (w := w) (by go_grown) (by simp)
  have HI1 := Lib.hid (HI.out.below hbel)
  have HD1 := Lib.hid hD1; have HB1 := Lib.hid hbel
  clear hD1 hbel hb1
  go_wp2
  go_loop [6, 34] (fun x y => ∃ j : Nat, j ≤ n ∧ x = .int .i64 (sumW ws j) ∧ y = .int .i64 j) (fun _ y => n - (intOf y).toNat)
  case atStart => exact ⟨0, Nat.zero_le _, by rw [sumW_zero], rfl⟩
  case round =>
    obtain ⟨j, hj, rfl, rfl⟩ := hrel
    rcases Nat.lt_or_ge j n with hlt | hge
    · obtain ⟨b, off, hA, hbl, hc⟩ := HI1.out.2.2 (by omega)
      subst hA
      have hx := hc j hlt
      clear hc
      have hs := HRNG.out j hj
      have hs2 := HWL.out j hlt
      have HE := Lib.hid (decide_eq_true (p := 0 ≤ hol ws j ∧ hol ws j ≤ 1000000000) (by omega))
      go_wp2_with (go_at_call 33; refine (within_c _ _ _ _).mono ?_; rw [HE.out]; rintro e w1 ⟨rfl, rfl⟩)
      go_round
      case rel => exact ⟨j + 1, by omega, by rw [HST.out j hlt], by go_num⟩
      case measure => simp [intOf]; omega
    · obtain rfl : n = j := by omega
      rw [HSE.out]
      obtain ⟨c0, c1, -, -, -⟩ := box2 HD1.out
      go_upto_region 17 with fail
      go_cut [9] (fun cv wx => cv = .int .i64 (U : Int) ∧ wx = w1)
      case first =>
        by_cases hu0 : u < -u
        · have e : (U : Int) = -u := by have := HU.out; omega
          go_wp2_with fail
          go_meet
          exact ⟨(by rw [e]), rfl⟩
        · have e : (U : Int) = u := by have := HU.out; omega
          go_wp2_with fail
          go_meet
          exact ⟨(by rw [e]), rfl⟩
      case rest =>
        obtain ⟨rfl, hwc⟩ := hcut
        subst hwc
        clear c0 c1
        have R0 := Lib.hid (rst_made (n := n) HD1.out HB1.out)
        have hmk := make_dec n (by omega)
        have hmk2 := run_make_row' (P := Try.prog) 37 3 (.int .i64 0) 8 Try.underlying37 Try.info3 rfl .i64 .i64 n (by omega) (by omega)
        have hz1 := HB1.out.size
        go_wp2
        obtain ⟨Bo, hBo⟩ : ∃ Bo, Bo = wc.heap.size := ⟨_, rfl⟩
        obtain ⟨Br, hBr⟩ : ∃ Br, Br = wc.heap.size + 1 := ⟨_, rfl⟩
        rw [← hBr] at R0 ⊢
        rw [← hBo] at R0 ⊢
        have hbo : w.heap.size < Bo := R0.out.lo
        have hbr : w.heap.size < Br := R0.out.lr
        have hbn : Bo ≠ Br := R0.out.ne
        clear hmk hmk2 hBo hBr hz1
        go_loopw [12, 62] (fun v1 v2 wx => ∃ i : Nat, i ≤ n ∧ v1 = .int .i64 ((U : Int) - (sumQ U S ws i : Nat)) ∧ v2 = .int .i64 (i : Int) ∧ RSt w u p Bo Br n (fun x => if x < i then ((shQ U S ws x : Nat) : Int) else 0) (fun x => if x < i then p else 0) (fun x => if x < i then ((shR U S ws x : Nat) : Int) else 0) wx) (fun _ v2 _ => n - (intOf v2).toNat)
        case atStart => exact ⟨0, Nat.zero_le _, (by simp [sumQ]), rfl, R0.out.congr (fun x _ => by simp) (fun x _ => by simp) (fun x _ => by simp)⟩
        case round =>
          obtain ⟨i, hin, rfl, rfl, hR⟩ := hrel
          rcases Nat.lt_or_ge i n with hlt | hge
          · obtain ⟨b, off, hA, hbl, hc⟩ := (HI.out.below hR.bel).2.2 (by omega)
            subst hA
            have hx := hc i hlt
            clear hc
            have hs2 := HWL.out i hlt
            have hq := HQL.out i hin U
            have HR := Lib.hid hR
            clear hR R0
            go_wp2_with fail
            refine (of_r (U : Int) _ (by omega)).mono ?_
            rintro e w2 ⟨s2, A2, n2, c2, rfl, hv2, hb2⟩
            go_wp2_with fail
            refine (of_r (hol ws i) _ (by omega)).mono ?_
            rintro e w3 ⟨s3, A3, n3, c3, rfl, hv3, hb3⟩
            go_wp2_with fail
            refine (timesof_r _ (hv2.below hb3) hv3 (small_of_le (by omega) (by omega)) (small_of_le (by omega) (by omega))).mono ?_
            rintro e w4 ⟨s4, A4, n4, c4, rfl, hv4, hb4⟩
            go_wp2_with fail
            refine (of_r (S : Int) _ (by omega)).mono ?_
            rintro e w5 ⟨s5, A5, n5, c5, rfl, hv5, hb5⟩
            go_wp2_with fail
            have hpr : (U : Int) * hol ws i = ((U * (hol ws i).toNat : Nat) : Int) := by
              rw [Int.natCast_mul]
              congr 1
              omega
            have hprb : U * (hol ws i).toNat ≤ 1000000000000000 * 1000000000 := Nat.mul_le_mul hUb (by omega)
            rw [hpr] at hv4
            refine (divmod_r _ (U * (hol ws i).toNat) S (hv4.below hb5) hv5 (Nat.lt_of_le_of_lt hprb (by decide)) (Nat.lt_of_le_of_lt (show S ≤ 1000000000000 by omega) (by decide)) hS0).mono ?_
            rintro e w6 ⟨sq, Aq, nq, cq, sr, Ar, nr, cr, rfl, hvq, hvr, hb6⟩
            have hvq : Big .i64 3 B6 w6 sq Aq nq cq ((shQ U S ws i : Nat) : Int) := hvq
            have hvr : Big .i64 3 B6 w6 sr Ar nr cr ((shR U S ws i : Nat) : Int) := hvr
            have hb26 : Below wr.heap.size wr w6 := below_then hb6 (below_then hb5 (below_then hb4 (below_then hb3 hb2 hb2.size) (by have := hb2.size; have := hb3.size; omega)) (by have := hb2.size; have := hb3.size; have := hb4.size; omega)) (by have := hb2.size; have := hb3.size; have := hb4.size; have := hb5.size; omega)
            clear hv2 hv3 hv4 hv5 hb2 hb3 hb4 hb5 hb6
            have hqb : shQ U S ws i ≤ U := shQ_le hs2.2.1 hS0
            have hrb : shR U S ws i < S := Nat.mod_lt _ hS0
            have hE : Hid (fitV ((shQ U S ws i : Nat) : Int) 1000000000000000 = ((shQ U S ws i : Nat) : Int)) := Lib.hid (by unfold fitV; rw [if_pos (by rw [Int.natAbs_natCast]; omega)])
            have hE2 : Hid (fitV ((shR U S ws i : Nat) : Int) 1000000000000000 = ((shR U S ws i : Nat) : Int)) := Lib.hid (by unfold fitV; rw [if_pos (by rw [Int.natAbs_natCast]; omega)])
            have hvq7 := (hvq.alloc (.cells #[.bool sq, .slice Aq nq cq] 41)).alloc (.cells #[.bool sr, .slice Ar nr cr] 41)
            have hvr7 := (hvr.alloc (.cells #[.bool sq, .slice Aq nq cq] 41)).alloc (.cells #[.bool sr, .slice Ar nr cr] 41)
            have hR7 := heap_new (w6.alloc (.cells #[.bool sq, .slice Aq nq cq] 41)) (.cells #[.bool sr, .slice Ar nr cr] 41) rfl
            have hb27 : Below wr.heap.size wr ((w6.alloc (.cells #[.bool sq, .slice Aq nq cq] 41)).alloc (.cells #[.bool sr, .slice Ar nr cr] 41)) := (hb26.alloc hb26.size _).alloc (by have := hb26.size; simp; omega) _
            rw [World.size_alloc] at hR7
            clear hvq hvr hb26 hpr hprb
            go_wp2_with fail
            generalize (w6.alloc (.cells #[.bool sq, .slice Aq nq cq] 41)).alloc (.cells #[.bool sr, .slice Ar nr cr] 41) = w7 at hvq7 hvr7 hR7 hb27 ⊢
            refine (small_r _ 1000000000000000 hvq7 (by omega)).mono ?_
            rintro e w8 ⟨rfl, hb8⟩
            rw [hE.out]
            have hvr8 := hvr7.below hb8
            have hR8 := heap_below hR7 hb8
            have hb28 := below_then hb8 hb27 hb27.size
            clear hvq7 hvr7 hR7 hb27 hb8
            obtain ⟨r0, r1, -, -, hrl⟩ := box2 hR8
            go_wp2_with fail
            refine (small_r _ 1000000000000000 hvr8 (by omega)).mono ?_
            rintro e w9 ⟨rfl, hb9⟩
            rw [hE2.out]
            have hb29 := below_then hb9 hb28 hb28.size
            have R9 := HR.out.below hb29
            clear hvr8 hR8 hb28 hb9 r0 r1 hrl hb29 hE hE2
            obtain ⟨a0, a1, a2, a3⟩ := R9.at hlt
            obtain ⟨r0, r1⟩ := R9.rat hlt
            obtain ⟨d0, d1, -, -, -⟩ := box2 R9.box
            have HR9 := Lib.hid R9
            clear R9 HR
            go_wp2
            go_roundw
            case rel => exact ⟨i + 1, by omega, (by congr 1; simp only [sumQ]; omega), by go_num, (((HR9.out.setR hlt _).setT hlt _).setP hlt _).congr (upd_lt i _ _) (upd_lt i _ _) (upd_lt i _ _)⟩
            case measure => simp [intOf]; omega
          · obtain rfl : n = i := by omega
            obtain ⟨g, hg⟩ := HBJ.out
            have HG := Lib.hid hg
            have hLz : (U : Int) - ((sumQ U S ws n : Nat) : Int) = ((L : Nat) : Int) := by
              have h1 := HQL.out n (Nat.le_refl n) U
              have h2 := HLL.out
              omega
            have RL := Lib.hid (hR.congr (T' := tS U S ws g 0) (P' := fun _ => p) (R' := rS U S ws g 0) (fun x hx => by simp [tS, hx]) (fun x hx => by simp [hx]) (fun x hx => by simp [rS, hx]))
            have HQB : Hid (∀ j, j < n → shQ U S ws j ≤ U) := fun j hj => shQ_le (HWL.out j hj).2.1 hS0
            rw [hLz]
            clear hR hLz R0 hg
            go_wp2
            go_loopw [12] (fun v1 wx => ∃ k : Nat, k ≤ L ∧ v1 = .int .i64 ((L : Int) - (k : Int)) ∧ RSt w u p Bo Br n (tS U S ws g k) (fun _ => p) (rS U S ws g k) wx) (fun v1 _ => (intOf v1).toNat)
            case atStart => exact ⟨0, Nat.zero_le _, by simp, RL.out⟩
            case round =>
              obtain ⟨k, hk, rfl, hR⟩ := hrel
              clear RL
              rcases Nat.lt_or_ge k L with hlt | hge
              · have hkz : (0 : Int) < (L : Int) - (k : Int) := by omega
                have HR := Lib.hid hR
                clear hR
                go_wp2
                go_loop [19, 108] (fun x y => ∃ i b : Nat, i ≤ n ∧ b < n ∧ (b < i ∨ (i = 0 ∧ b = 0)) ∧ x = .int .i64 b ∧ y = .int .i64 i ∧ Hid (FirstB (rS U S ws g k) i b)) (fun _ y => n - (intOf y).toNat)
                case atStart => exact ⟨0, 0, Nat.zero_le _, by omega, Or.inr ⟨rfl, rfl⟩, rfl, rfl, ⟨fun _ => rfl, fun j hj => by omega⟩⟩
                case round =>
                  obtain ⟨i, b, hi, hb, hbi, rfl, rfl, HFB⟩ := hrel
                  rcases Nat.lt_or_ge i n with hlt2 | hge2
                  · have r0 := (HR.out.rat hlt2).1
                    have r1 := (HR.out.rat hb).1
                    by_cases hcmp : rS U S ws g k b < rS U S ws g k i
                    · have HN := Lib.hid ((HFB.out.step (hbi.imp id And.left)).1 hcmp)
                      generalize rS U S ws g k b = vb at *
                      generalize rS U S ws g k i = vi at *
                      go_wp2
                      go_round
                      case rel => exact ⟨i + 1, i, by omega, hlt2, Or.inl (by omega), rfl, by go_num, HN.out⟩
                      case measure => simp [intOf]; omega
                    · have HN := Lib.hid ((HFB.out.step (hbi.imp id And.left)).2 hcmp)
                      generalize rS U S ws g k b = vb at *
                      generalize rS U S ws g k i = vi at *
                      go_wp2
                      go_round
                      case rel => exact ⟨i + 1, b, by omega, hb, Or.inl (by omega), rfl, by go_num, HN.out⟩
                      case measure => simp [intOf]; omega
                  · obtain rfl : n = i := by omega
                    have hbf := first_is HG.out HSR.out (by omega) hb HFB.out
                    subst hbf
                    obtain ⟨a0, a1, a2, a3⟩ := HR.out.at hb
                    obtain ⟨r0, r1⟩ := HR.out.rat hb
                    have ht : tS U S ws g k (f k) = ((shQ U S ws (f k) : Nat) : Int) := by unfold tS; rw [(HG.out k (by omega)).2.2.2, if_neg (Nat.lt_irrefl k)]; rfl
                    rw [ht] at a0
                    have hqb := HQB.out (f k) hb
                    clear ht
                    go_wp2
                    go_roundw
                    case rel => exact ⟨k + 1, by omega, by go_num, ((HR.out.setT hb _).setR hb _).congr (tS_next HG.out (by omega)) (fun _ _ => rfl) (rS_next HG.out (by omega))⟩
                    case measure => simp [intOf]; omega
              · obtain rfl : L = k := by omega
                have HR := Lib.hid hR
                clear hR
                have hkz : ¬ (0 : Int) < (L : Int) - (L : Int) := by omega
                have HTB : Hid (∀ j, j < n → 0 ≤ tS U S ws g L j ∧ tS U S ws g L j ≤ 1000000000000001) := fun j hj => by
                  have := HQB.out j hj
                  unfold tS
                  split <;> omega
                go_wp2
                by_cases hu0 : u < 0
                · go_loopw [134] (fun y wx => ∃ i : Nat, i ≤ n ∧ y = .int .i64 (i : Int) ∧ RSt w u p Bo Br n (fun x => if x < i then -(tS U S ws g L x) else tS U S ws g L x) (fun _ => p) (rS U S ws g L) wx) (fun y _ => n - (intOf y).toNat)
                  case atStart => exact ⟨0, Nat.zero_le _, rfl, HR.out.congr (fun x _ => by simp) (fun _ _ => rfl) (fun _ _ => rfl)⟩
                  case round =>
                    obtain ⟨i, hi, rfl, hR⟩ := hrel
                    rcases Nat.lt_or_ge i n with hlt | hge
                    · obtain ⟨a0, a1, a2, a3⟩ := hR.at hlt
                      rw [if_neg (Nat.lt_irrefl i)] at a0
                      obtain ⟨d0, d1, -, -, -⟩ := box2 hR.box
                      have hb := HTB.out i hlt
                      have HR2 := Lib.hid hR
                      clear hR
                      generalize ht : tS U S ws g L i = t at a0 hb
                      have HTT := Lib.hid ht
                      clear ht
                      go_wp2
                      go_roundw
                      case rel => exact ⟨i + 1, by omega, by go_num, (HR2.out.setT hlt _).congr (fun x hx => by rw [← HTT.out]; exact neg_lt i _ x) (fun _ _ => rfl) (fun _ _ => rfl)⟩
                      case measure => simp [intOf]; omega
                    · obtain rfl : n = i := by omega
                      have hfin := rst_end (u := u) (p := p) (ws := ws) hR (fun x hx => by
                        rw [if_pos (HG.out x hx).1]
                        unfold outV tS
                        simp only [HL.out, HS2.out, ← HU.out, ← HLL.out, (HG.out x hx).2.2.2]
                        rw [if_pos hu0]) HL.out (fun x hx => (HG.out x hx).1)
                      have HFIN := Lib.hid hfin
                      clear hfin hR
                      go_wp2
                      go_ret2
                      exact HFIN.out
                · go_loopw [134] (fun y wx => ∃ i : Nat, i ≤ n ∧ y = .int .i64 (i : Int) ∧ RSt w u p Bo Br n (tS U S ws g L) (fun _ => p) (rS U S ws g L) wx) (fun y _ => n - (intOf y).toNat)
                  case atStart => exact ⟨0, Nat.zero_le _, rfl, HR.out⟩
                  case round =>
                    obtain ⟨i, hi, rfl, hR⟩ := hrel
                    rcases Nat.lt_or_ge i n with hlt | hge
                    · obtain ⟨d0, d1, -, -, -⟩ := box2 hR.box
                      have HR2 := Lib.hid hR
                      clear hR
                      go_wp2
                      go_roundw
                      case rel => exact ⟨i + 1, by omega, by go_num, HR2.out⟩
                      case measure => simp [intOf]; omega
                    · obtain rfl : n = i := by omega
                      have hfin := rst_end (u := u) (p := p) (ws := ws) hR (fun x hx => by
                        unfold outV tS
                        simp only [HL.out, HS2.out, ← HU.out, ← HLL.out, (HG.out x hx).2.2.2]
                        rw [if_neg hu0]) HL.out (fun x hx => (HG.out x hx).1)
                      have HFIN := Lib.hid hfin
                      clear hfin hR
                      go_wp2
                      go_ret2
                      exact HFIN.out
end Go.Proofs.Ytegabimiegdcjaa
