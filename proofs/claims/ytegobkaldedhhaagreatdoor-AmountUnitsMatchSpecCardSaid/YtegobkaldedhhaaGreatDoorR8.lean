
/- The walks of the reference: Small, decimal, Compare. -/
import Derived.Test.YtegobkaldedhhaaGreatDoorRB
import Derived.Test.YtegobkaldedhhaaGreatDoorR6
namespace Go.Proofs.YtegobkaldedhhaaGreatDoor
open Go.RowKit Limb

theorem horner {l : List Nat} {j : Nat} (h : j < l.length) : val B6 (l.drop j) = val B6 (l.drop (j + 1)) * 1000000 + dg l j := by
  rw [drop_dg h, val_cons]; unfold B6; omega
theorem drop_le6 (l : List Nat) (j : Nat) : val B6 (l.drop j) ≤ val B6 l := by
  rcases Nat.lt_or_ge l.length j with h | h
  · rw [List.drop_of_length_le (by omega)]; exact Nat.zero_le _
  · have h1 := val_split B6 l j h
    have h2 : 1 * val B6 (l.drop j) ≤ B6 ^ j * val B6 (l.drop j) := Nat.mul_le_mul_right _ (Nat.pow_pos (by decide))
    omega

set_option maxHeartbeats 2000000 in
set_option maxRecDepth 100000 in
theorem small_r (w : World) {s : Bool} {A : Option Addr} {n c : Nat} {z : Int} (L : Nat) (h : Big .i64 3 B6 w s A n c z) (hL : L ≤ 1000000000000000000) :
    Calls Tryz.prog 33 #[.agg #[.bool s, .slice A n c], .int .i64 (L : Int)] w fun e w' => e = .returned (.tuple #[.int .i64 (fitV z L), .bool (fitB z L)]) ∧ Below w.heap.size w w' := by
  obtain ⟨l, hd, hnc, hcm, gl, nl, sl, rfl⟩ := h
  have hfd : ∀ (b : Bool) (X : Option Addr) (i j : Nat) (w : World), (Instr.field 61 (.agg #[.bool b, .slice X i j]) 1).run Tryz.prog w = .ok (.slice X i j) w := fun _ _ _ _ _ => by kernel_rfl
  have HL := Lib.hid hd.1
  have hcm' : c ≤ 9223372036854775807 := by unfold maxLen at hcm; omega
  go_enter Tryz.func33, Tryz.ntmps33
  go_wp2_with fail
  have hX := heap_new w (.cells #[.bool s, .slice A n c] 61) rfl
  have hB : Below w.heap.size w (w.alloc (.cells #[.bool s, .slice A n c] 61)) := by go_grown
  have hd1 := hd.alloc (.cells #[.bool s, .slice A n c] 61)
  generalize w.alloc (.cells #[.bool s, .slice A n c] 61) = w1 at hX hB hd1 ⊢
  obtain ⟨x0, x1, -, -, -⟩ := box2 hX
  have hz := hB.size
  go_region_held3 (fun w' => w'.cell? ⟨w.heap.size, 0, none⟩ = some (.bool s) ∧ w'.cell? ⟨w.heap.size, 1, none⟩ = some (.slice A n c))
    (first | (with_reducible exact ⟨x50, x51⟩) | (exact ⟨x0, x1⟩) | (exact ⟨x50, x51⟩) | (go_keep; done))
    (first
      | (go_at_call 51; refine (of_r ((L : Nat) : Int) _ (by omega)).mono ?_; rintro e w5 ⟨s5, A5, n5, c5, rfl, hv5, hb5⟩; obtain ⟨l5, hd5, hnc5, hcm5, gl5, nl5, sl5, he5⟩ := hv5; (have hX5 := heap_below (w := w1.drew) hX hb5); (have hd6 := Dig.below (w := w1.drew) hd1 hb5); obtain ⟨x50, x51, -, -, -⟩ := box2 hX5; (have HE5 := Lib.hid he5); clear he5)
      | (go_at_call 83; refine (sizes_r l l5 A A5 n c n5 c5 _ hd6 hnc hcm hd5 hnc5 hcm5 gl gl5 nl nl5).mono ?_; rintro e w6 ⟨r, rfl, hr, q, rfl⟩; (have HR := Lib.hid hr); clear hr))
  have hX6 : (w5.drewN q).heap[w.heap.size]? = some (.cells #[.bool s, .slice A n c] 61 (0, 0)) := by exact hX5
  have hd7 : Dig (w5.drewN q) .i64 3 A n l := by exact hd6
  have hB6 : Below w.heap.size w (w5.drewN q) := below_drewN (below_then hb5 hB.drew hz) q
  have hLv : L = val B6 l5 := by
    have := HE5.out
    have h2 : (sg s5 (val B6 l5)).natAbs = val B6 l5 := sg_natAbs _ _
    omega
  have hfit : ((sg s (val B6 l)).natAbs ≤ L) ↔ ¬ (0 < r) := by
    rw [sg_natAbs, hLv]
    have := HR.out.2.1
    omega
  have HFIT := Lib.hid hfit
  have hlim := HFIT.out
  rw [sg_natAbs] at hlim
  generalize w5.drewN q = w6 at *
  clear hX hX5 hd hd1 hd6 hB hb5 x0 x1 x50 x51 hLv hfit hd5 gl5 nl5 sl5 HR HE5
  by_cases hr0 : 0 < r
  · have e1 : fitV (sg s (val B6 l)) L = 0 := by unfold fitV; rw [if_neg (fun h => (HFIT.out.1 h) hr0)]
    have e2 : fitB (sg s (val B6 l)) L = false := by unfold fitB; exact decide_eq_false (fun h => (HFIT.out.1 h) hr0)
    have E1 := Lib.hid e1; have E2 := Lib.hid e2; clear e1 e2 hlim
    go_wp2
    go_ret2
    exact ⟨by rw [E1.out, E2.out]; rfl, hB6⟩
  · have hle : val B6 l ≤ L := hlim.2 hr0
    have e1 : fitV (sg s (val B6 l)) L = sg s (val B6 l) := by unfold fitV; rw [if_pos (HFIT.out.2 hr0)]
    have e2 : fitB (sg s (val B6 l)) L = true := by unfold fitB; exact decide_eq_true (HFIT.out.2 hr0)
    have E1 := Lib.hid e1; have E2 := Lib.hid e2; clear e1 e2 hlim
    obtain ⟨x0, x1, -, -, -⟩ := box2 hX6
    go_wp2_with fail
    go_loop [6, 7] (fun v i => ∃ j : Nat, j ≤ n ∧ i = .int .i64 ((j : Int) - 1) ∧ v = .int .i64 ((val B6 (l.drop j) : Nat) : Int)) (fun _ i => (intOf i + 1).toNat)
    case atStart => exact ⟨n, Nat.le_refl _, rfl, by rw [List.drop_of_length_le (by rw [HL.out]; exact Nat.le_refl _)]; rfl⟩
    case round =>
      obtain ⟨j, hj, rfl, rfl⟩ := hrel
      have hdl := drop_le6 l j
      rcases j with _ | j
      · have hv : val B6 (l.drop 0) = val B6 l := rfl
        rw [hv] at hdl ⊢
        clear hv
        cases s with
        | true =>
          go_wp2
          go_ret2
          exact ⟨by rw [E1.out, E2.out]; simp [sg], hB6⟩
        | false =>
          go_wp2
          go_ret2
          exact ⟨by rw [E1.out, E2.out]; rfl, hB6⟩
      · have e : ((j + 1 : Nat) : Int) - 1 = (j : Int) := by omega
        rw [e]
        obtain ⟨g, rfl, hg, hc1⟩ := hd7.at_ (by omega)
        have hx := hc1 j (by omega)
        clear hc1
        have hlt : (j : Int) < (n : Int) := by omega
        have h0 : (0 : Int) ≤ (j : Int) := by omega
        have hh := horner (l := l) (j := j) (by rw [HL.out]; omega)
        have hdl2 := drop_le6 l j
        have HH := Lib.hid hh
        have hb1 : val B6 (l.drop (j + 1)) * 1000000 + dg l j ≤ 1000000000000000000 := by omega
        clear hh hdl hdl2
        obtain ⟨V, hV⟩ : ∃ V, V = val B6 (l.drop (j + 1)) := ⟨_, rfl⟩
        rw [← hV] at hb1 HH ⊢
        clear hV
        go_wp2
        go_round
        case rel => exact ⟨j, by omega, rfl, congrArg _ (by rw [HH.out]; omega)⟩
        case measure => simp [intOf]

set_option maxHeartbeats 1000000 in
theorem decimal_r (w : World) {s : Bool} {A : Option Addr} {n c : Nat} {z : Int} (p : Int) (h : Big .i64 3 B6 w s A n c z) :
    Calls Tryz.prog 53 #[.agg #[.bool s, .slice A n c], .int .i64 p] w (RetD (made z p) w) := by
  by_cases hz : z.natAbs ≤ 1000000000000000
  · obtain ⟨e1, e2, e3⟩ := made_fit z p hz
    rw [e1]
    have E2 := Lib.hid e2; have E3 := Lib.hid e3; clear e1 e2 e3
    go_enter Tryz.func53, Tryz.ntmps53
    go_wp2_with fail
    refine (small_r _ 1000000000000000 ((h.alloc _).alloc _) (by omega)).mono ?_
    rintro e w1 ⟨rfl, hb⟩
    rw [E2.out, E3.out]
    have hB := heap_below (heap_new (w.alloc _) _ rfl) hb
    simp only [World.size_alloc] at hB
    obtain ⟨g0, g1, g2, g3, g4⟩ := box2 hB
    go_wp2
    refine bodyPost_ret (v := .tuple #[.agg #[.int .i64 z, .int .i64 p], .int .i64 0]) (by simp [results, Tryz.results53, go_sem, g0, g1]) rfl ⟨rfl, ?_⟩
    go_grown
    exact below_then hb (by go_grown) (by simp only [World.size_alloc]; omega)
  · obtain ⟨e1, e2, e3⟩ := made_not z p hz
    rw [e1]
    have E2 := Lib.hid e2; have E3 := Lib.hid e3; clear e1 e2 e3
    go_enter Tryz.func53, Tryz.ntmps53
    go_wp2_with fail
    refine (small_r _ 1000000000000000 ((h.alloc _).alloc _) (by omega)).mono ?_
    rintro e w1 ⟨rfl, hb⟩
    rw [E2.out, E3.out]
    have hB := heap_below (heap_new (w.alloc _) _ rfl) hb
    simp only [World.size_alloc] at hB
    obtain ⟨g0, g1, g2, g3, g4⟩ := box2 hB
    go_wp2
    refine bodyPost_ret (v := .tuple #[.agg #[.int .i64 0, .int .i64 0], .int .i64 1]) (by simp [results, Tryz.results53, go_sem, g0, g1]) rfl ⟨rfl, ?_⟩
    go_grown
    exact below_then hb (by go_grown) (by simp only [World.size_alloc]; omega)

end Go.Proofs.YtegobkaldedhhaaGreatDoor
