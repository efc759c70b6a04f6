
/- The walks of package amount: divisor, product. -/
import Derived.Test.YtegobkaldedhhaaGreatDoorU8
import Derived.Deep.RegionWith
namespace Go.Proofs.YtegobkaldedhhaaGreatDoor
open Go.RowKit Limb
set_option linter.unusedVariables false
set_option linter.unusedSimpArgs false

set_option maxHeartbeats 1000000 in
theorem divisor_c (a b : Nat) (w : World) (ha : a ≤ 1000000) (hb : b ≤ 1000000) :
    Calls Tryz.prog 26 #[.int .i64 (a : Int), .int .i64 (b : Int)] w fun e w' => e = .returned (.int .i64 ((Nat.gcd a b : Nat) : Int)) ∧ ∃ q, w' = w.drewN q := by
  go_enter Tryz.func26, Tryz.ntmps26
  go_wp2
  go_loopw [0, 1] (fun v0 v1 wr => ∃ x y q : Nat, v0 = .int .i64 (x : Int) ∧ v1 = .int .i64 (y : Int) ∧ x ≤ 1000000 ∧ y ≤ 1000000 ∧ Hid (Nat.gcd x y = Nat.gcd a b) ∧ wr = w.drewN q) (fun _ v1 _ => (intOf v1).toNat)
  case atStart => exact ⟨a, b, 0, rfl, rfl, ha, hb, Lib.hid rfl, rfl⟩
  case round =>
    obtain ⟨x, y, q, rfl, rfl, hx, hy, HG, rfl⟩ := hrel
    by_cases h0 : y = 0
    · subst h0
      have K := Lib.hid (show Nat.gcd a b = x by rw [← HG.out, Nat.gcd_zero_right])
      go_wp2
      go_ret
      exact ⟨by rw [K.out]; rfl, _, rfl⟩
    · have h0' : ((y : Int) != 0) = true := by simpa using h0
      have h1 : (1 : Int) ≤ (y : Int) := by omega
      have hlt := Nat.mod_lt x (y := y) (by omega)
      obtain ⟨r, hr⟩ : ∃ r, x % y = r := ⟨_, rfl⟩
      have HR := Lib.hid (show Nat.gcd y r = Nat.gcd a b by rw [← HG.out, ← hr, Nat.gcd_comm x y, Nat.gcd_rec y x, Nat.gcd_comm])
      have hm : ((x : Int)) % (y : Int) = ((r : Nat) : Int) := by rw [← hr]; rfl
      rw [hr] at hlt
      have hm' : ((x : Int)).tmod (y : Int) = ((r : Nat) : Int) := by rw [Int.tmod_eq_emod_of_nonneg (by omega), hm]
      clear hr h0
      go_wp2_with fail
      go_quiet (fail)
      go_wp2
      go_roundw
      case rel => exact ⟨y, r, _, rfl, by first | rfl | (rw [hm]; rfl), hy, by omega, HR, World.drewN_drewN _ _ _⟩
      case measure => simp [intOf]; omega

set_option maxHeartbeats 8000000 in
set_option maxRecDepth 100000 in
theorem product_c (l : List Nat) (A : Option Addr) (n c : Nat) (w : World) (hd : Dig w .i64 3 A n l) (hl : ∀ x ∈ l, 1 ≤ x ∧ x ≤ 1000000) (hn : n ≤ 10) :
    Calls Tryz.prog 27 #[.slice A n c] w (Makes .u32 100 B32 w ((prodN l : Nat) : Int)) := by
  have HL := Lib.hid hl; have HD := Lib.hid hd
  have HN := Lib.hid hd.1
  clear hl hd
  have hpw : ∀ j, j ≤ l.length → prodN (l.take j) ≤ 1000000 ^ 10 := fun j hj => by
    refine Nat.le_trans (prodN_le (l := l.take j) fun x hx => (HL.out x (List.mem_of_mem_take hx)).2) ?_
    refine Nat.pow_le_pow_right (by decide) ?_
    rw [List.length_take]
    have := HN.out; omega
  have HP := Lib.hid hpw; clear hpw
  go_enter Tryz.func27, Tryz.ntmps27
  go_wp2_with fail
  refine (of_c 1 _ (by omega) (by omega)).mono ?_
  rintro e w2 ⟨s2, A2, n2, c2, rfl, hv2, hb2⟩
  have hR2 := heap_below (heap_new w _ rfl) hb2
  have hbel2 := below_then hb2 (w := w) (B := w.heap.size) (by go_grown) (by simp only [World.size_alloc]; omega)
  have hz2 := hbel2.size
  have hlt2 := lt_heap hR2
  clear hb2
  go_wp2_with fail
  go_loopw [9] (fun i wr => ∃ (j : Nat) (t : Bool) (B : Option Addr) (k d : Nat), j ≤ n ∧ i = .int .i64 j ∧ wr.heap[w2.heap.size]? = some (.cells #[.bool t, .slice B k d] 56 (0, 0)) ∧ wr.heap[w.heap.size]? = some (.cells #[.bool false, .slice none 0 0] 56 (0, 0)) ∧
      Big .u32 100 B32 wr t B k d ((prodN (l.take j) : Nat) : Int) ∧ Below w.heap.size w wr) (fun i _ => n - (intOf i).toNat)
  case atStart => exact ⟨0, s2, A2, n2, c2, Nat.zero_le _, rfl, heap_new _ _ rfl, heap_old hR2 _, by exact hv2.alloc _, hbel2.alloc hz2 _⟩
  case round =>
    obtain ⟨j, t, B, k, d, hj, rfl, hO, hR, hbig, hbel⟩ := hrel
    have hzr := hbel.size
    obtain ⟨o0, o1, of0, of1, oz⟩ := box2 hO
    have hpj := HP.out j (by rw [HN.out]; exact hj)
    have hsm : Small ((prodN (l.take j) : Nat) : Int) := by
      unfold Small
      have h4 : (1000000 : Nat) ^ 10 < 10 ^ 200 := by decide
      omega
    clear hpj
    rcases Nat.lt_or_ge j n with hjn | hjn
    · have hjl : j < l.length := by rw [HN.out]; exact hjn
      obtain ⟨g, rfl, hg, hcell⟩ := (HD.out.below hbel).at_ (by omega)
      have hx := hcell j hjn
      have hxb := HL.out l[j] (List.getElem_mem hjl)
      have hst := prodN_take hjl
      have hdg := dg_get hjl
      rw [List.getElem?_eq_getElem hjl] at hdg
      injection hdg with hdg
      rw [hdg] at hxb hst
      obtain ⟨v, hv⟩ : ∃ v, dg l j = v := ⟨_, rfl⟩
      rw [hv] at hx hxb hst
      have HST := Lib.hid hst
      clear hv hdg hcell hst
      have hv1 : (0 : Int) ≤ (v : Int) := by omega
      go_wp2_with fail
      go_region_with
        (first
          | (go_at_call 42; refine (of_c (v : Int) _ (by omega) (by omega)).mono ?_; rintro e w4 ⟨s4, A4, n4, c4, rfl, hv4, hb4⟩; (have hO4 := heap_below (w := wr.drew) hO hb4); (have hR4 := heap_below (w := wr.drew) hR hb4); (have hbel4 := below_then hb4 hbel.drew hzr); obtain ⟨r10, r11, -, -, -⟩ := box2 hO4)
          | (go_at_call 43; refine (times_c _ (by exact Big.below (w := wr.drew) hbig hb4) hv4 hsm (small_of_le (by omega) (by omega))).mono ?_; rintro e w7 ⟨s7, A7, n7, c7, rfl, hv7, hb7⟩; (have hO7 := heap_below hO4 hb7); (have hR7 := heap_below hR4 hb7); (have hbel7 := below_then hb7 hbel4 hbel4.size); obtain ⟨g0, g1, g2, g3, g4⟩ := box2 hO7))
      all_goals
        have hstep : ((prodN (l.take j) : Nat) : Int) * (v : Int) = ((prodN (l.take (j + 1)) : Nat) : Int) := by rw [HST.out]; simp
        rw [hstep] at hv7
        clear hstep
        have hN := hv7.box2 hO7 (by decide) (.bool s7) (.slice A7 n7 c7)
        have hO8 := heap_set (heap_set hO7 0 (.bool s7)) 1 (.slice A7 n7 c7)
        have hR8 := heap_far (heap_far hR7 (p := ⟨w2.heap.size, 0, none⟩) (by dsimp only; omega) (.bool s7)) (p := ⟨w2.heap.size, 1, none⟩) (by dsimp only; omega) (.slice A7 n7 c7)
        have hb' := (hbel7.setCell (p := ⟨w2.heap.size, 0, none⟩) hz2 (.bool s7)).setCell (p := ⟨w2.heap.size, 1, none⟩) hz2 (.slice A7 n7 c7)
        generalize (w7.setCell ⟨w2.heap.size, 0, none⟩ (.bool s7)).setCell ⟨w2.heap.size, 1, none⟩ (.slice A7 n7 c7) = w8 at hN hO8 hR8 hb' ⊢
        clear hv7 hO7 hR7 hb7 hbel7 g0 g1 g2 g3 g4 hv4 hO4 hR4 hb4 hbel4
        go_wp2
        go_roundw
        case rel => exact ⟨j + 1, s7, A7, n7, c7, by omega, by go_num, hO8, hR8, hN, hb'⟩
        case measure => simp [intOf]; omega
    · obtain rfl : j = n := by omega
      rw [show l.take j = l from List.take_of_length_le (by rw [HN.out]; exact Nat.le_refl _)] at hbig
      obtain ⟨g0, g1, g2, g3, g4⟩ := box2 hR
      go_wp2
      have hR9 := heap_set (heap_set hR 0 (.bool t)) 1 (.slice B k d)
      refine bodyPost_ret (v := .agg #[.bool t, .slice B k d]) (by simp [results, Tryz.results27, go_sem, g0, g1]) rfl ⟨t, B, k, d, rfl, hbig.box2 hR (by decide) _ _, ?_⟩
      go_grown
end Go.Proofs.YtegobkaldedhhaaGreatDoor
