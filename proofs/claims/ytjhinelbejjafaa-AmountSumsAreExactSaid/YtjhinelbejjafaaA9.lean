/- The walk of the law AmountSumsAreExact. -/
import Derived.Test.YtjhinelbejjafaaA8
import Derived.Test.YtjhinelbejjafaaL1
namespace Go.Proofs.Ytjhinelbejjafaa
open Go.RowKit Limb

theorem reverse_0 (A : Option Addr) (c : Nat) (w : World) : Calls Try.prog 13 #[.slice A 0 c] w fun e w' => e = .returned (.tuple #[]) ∧ w = w' := by
  go_enter Try.func13, Try.ntmps13
  go_wp2
  go_rounds 1
  go_end0
  exact ⟨rfl, rfl⟩

theorem reverse_any (ds : List (Int × Int)) (B : Nat) (A : Option Addr) (n c : Nat) (w : World) (hown : w.ownsRow B 24 2 (.slice A n c) n (decV ds)) (hl : ds.length = n) (hn : n ≤ 1000) :
    Calls Try.prog 13 #[.slice A n c] w fun e w' => e = .returned (.tuple #[]) ∧ w'.ownsRow B 24 2 (.slice A n c) n (decV ds.reverse) ∧ Below B w w' := by
  rcases Nat.eq_zero_or_pos n with h0 | h0
  · subst h0
    have h1 : ds = [] := List.length_eq_zero_iff.1 hl
    subst h1
    refine (reverse_0 A c w).mono ?_
    rintro e w' ⟨he, rfl⟩
    exact ⟨he, hown, Below.refl _ _⟩
  · exact reverse_c ds B A n c w hown hl hn h0

/-- The sum's contract, in one. -/
theorem sum_c' (ds : List (Int × Int)) (A : Option Addr) (n c : Nat) (w : World) (hd : Decs w A n ds) (hn : n ≤ 9223372036854775807) :
    Calls Try.prog 9 #[.slice A n c] w (RetD (sumR ds) w) := by
  by_cases h : 1000 < n
  · exact sum_big ds A n c w hd hn h
  · by_cases hb : allB ds = true
    · exact sum_ok ds A n c w hd h hb
    · exact sum_bad ds A n c w hd h (by simpa using hb)

theorem Decs.take {w : World} {A : Option Addr} {n k : Nat} {ds : List (Int × Int)} (h : Decs w A n ds) (hk : k ≤ n) : Decs w A k (ds.take k) := by
  refine ⟨by rw [List.length_take, h.1]; omega, fun d hd => h.2.1 d (List.mem_of_mem_take hd), fun h0 => ?_⟩
  obtain ⟨b, off, e, hl, hc⟩ := h.2.2 (by omega)
  refine ⟨b, off, e, hl, fun j hj => ?_⟩
  have e1 : dU (ds.take k) j = dU ds j := by unfold dU; rw [List.getD_eq_getElem?_getD, List.getD_eq_getElem?_getD, List.getElem?_take, if_pos hj]
  have e2 : dP (ds.take k) j = dP ds j := by unfold dP; rw [List.getD_eq_getElem?_getD, List.getD_eq_getElem?_getD, List.getElem?_take, if_pos hj]
  rw [e1, e2]
  exact hc j (by omega)
theorem Decs.none_ {w : World} {A : Option Addr} {n : Nat} {ds : List (Int × Int)} (hn : n = 0) (hd : ds = []) : Decs w A n ds := by
  subst hn; subst hd
  exact ⟨rfl, fun d hd => by simp at hd, fun h => by omega⟩
theorem Decs.drop {w : World} {A : Option Addr} {n k : Nat} {ds : List (Int × Int)} (h : Decs w A n ds) (hk : k ≤ n) : Decs w (A.map fun x => x.add (k * 2)) (n - k) (ds.drop k) := by
  refine ⟨by rw [List.length_drop, h.1], fun d hd => h.2.1 d (List.mem_of_mem_drop hd), fun h0 => ?_⟩
  obtain ⟨b, off, rfl, hl, hcell⟩ := h.2.2 (by omega)
  refine ⟨b, off + k * 2, ?_, hl, fun j hj => ?_⟩
  · simp only [Option.map_some, Addr.add]; split <;> simp_all
  have e1 : dU (ds.drop k) j = dU ds (k + j) := by unfold dU; rw [List.getD_eq_getElem?_getD, List.getD_eq_getElem?_getD, List.getElem?_drop]
  have e2 : dP (ds.drop k) j = dP ds (k + j) := by unfold dP; rw [List.getD_eq_getElem?_getD, List.getD_eq_getElem?_getD, List.getElem?_drop]
  rw [e1, e2]
  have := hcell (k + j) (by omega)
  have e3 : off + (k + j) * 2 = off + k * 2 + j * 2 := by omega
  rw [e3] at this
  exact this
/-- Decimals in a row of the call's own. -/
theorem Decs.of_own {w : World} {B n c : Nat} {A : Option Addr} {ds : List (Int × Int)} (h : w.ownsRow B 24 2 (.slice A n c) n (decV ds)) (hr : ∀ d ∈ ds, (-9223372036854775808 ≤ d.1 ∧ d.1 ≤ 9223372036854775807) ∧ (-9223372036854775808 ≤ d.2 ∧ d.2 ≤ 9223372036854775807)) : Decs w A n ds := by
  have hl : ds.length = n := by have := h.1; rw [decV_length] at this; omega
  refine ⟨hl, hr, fun h0 => ?_⟩
  rcases h.2 with ⟨_, hn⟩ | ⟨g, cap, cur, hv, _, hh, _⟩
  · omega
  · injection hv with hA _ hcap
    subst hA; subst hcap
    refine ⟨g, 0, rfl, lt_heap hh, fun j hj => ?_⟩
    have h1 := decV_get ds j (by omega)
    rw [Nat.zero_add]
    exact ⟨(h.cellAt (j * 2) (by omega)).trans h1.1, (h.cellAt (j * 2 + 1) (by omega)).trans h1.2⟩

set_option maxHeartbeats 4000000 in
set_option maxRecDepth 100000 in
theorem law_bad (ds : List (Int × Int)) (A : Option Addr) (n c : Nat) (k : Int) (w : World) (hd : Decs w A n ds) (hn : n ≤ 9223372036854775807) (hf : (sumR ds).2.2 ≠ 0) :
    Calls Try.prog 3 #[.slice A n c, .int .i64 k] w fun e w' => e = .returned (.bool true) ∧ Below w.heap.size w w' := by
  obtain ⟨⟨x, p, f⟩, hs⟩ : ∃ R, sumR ds = R := ⟨_, rfl⟩
  rw [hs] at hf
  have hx : x = 0 := by
    rcases sum_fault ds with h | ⟨h, _⟩
    · rw [hs] at h; exact absurd h hf
    · rw [hs] at h; exact h
  subst hx
  have hf' : (f != 0) = true := by simpa using hf
  have HS := Lib.hid hs; clear hs hf
  go_enter Try.func3, Try.ntmps3
  go_wp2_with fail
  refine (sum_c' ds A n c _ hd hn).mono ?_
  rintro e w1 ⟨rfl, hb1⟩
  rw [HS.out]
  have hz := hb1.size
  go_wp2_with fail
  refine (awake_c _).mono ?_
  rintro e w2 ⟨rfl, hb2⟩
  go_wp2
  go_ret
  exact ⟨rfl, below_then hb2 (hb1.alloc hz _) (by simp; omega)⟩

set_option maxHeartbeats 8000000 in
set_option maxRecDepth 100000 in
theorem law_ok (ds : List (Int × Int)) (A : Option Addr) (n c : Nat) (k : Int) (w : World) (hd : Decs w A n ds) (hnc : n ≤ c) (_hcm : c ≤ 9223372036854775807) (hA : A = none → n = 0 ∧ c = 0) (hA2 : ∀ a, A = some a → 0 < c → ∃ b off, a = ⟨b, off, none⟩) (hk : -9223372036854775808 ≤ k ∧ k ≤ 9223372036854775807) {x p : Int} (hs : sumR ds = (x, p, 0)) :
    Calls Try.prog 3 #[.slice A n c, .int .i64 k] w fun e w' => e = .returned (.bool true) ∧ Below w.heap.size w w' := by
  obtain ⟨hdx, _, hl1000, _⟩ := sum_exact hs
  have hn : n ≤ 1000 := by rw [← hd.1]; exact hl1000
  have hrev : sumR ds.reverse = (x, p, 0) := by rw [sumR_reverse]; exact hs
  have hwf : ∀ d ∈ ds.reverse, (-9223372036854775808 ≤ d.1 ∧ d.1 ≤ 9223372036854775807) ∧ (-9223372036854775808 ≤ d.2 ∧ d.2 ≤ 9223372036854775807) := fun d hd' => hd.2.1 d (List.mem_reverse.1 hd')
  have HR := Lib.hid hrev; have HS := Lib.hid hs; have HX := Lib.hid hdx; have HL := Lib.hid hd.1; have HA := Lib.hid hA; have HA2 := Lib.hid hA2; have HWF := Lib.hid hwf
  clear hrev hs hdx hl1000 hA hA2 hwf
  go_enter Try.func3, Try.ntmps3
  go_wp2_with fail
  refine (sum_c' ds A n c _ hd (by omega)).mono ?_
  rintro e w1 ⟨rfl, hb1⟩
  rw [HS.out]
  have hz1 := hb1.size
  go_wp2_with fail
  have hX := heap_new w1 (.cells #[.int .i64 x, .int .i64 p] 24) rfl
  have hb1 := hb1.alloc hz1 (.cells #[.int .i64 x, .int .i64 p] 24)
  generalize hg1 : w1.alloc (.cells #[.int .i64 x, .int .i64 p] 24) = w2 at hX hb1 ⊢
  have hz2 := hb1.size
  have hlx := lt_heap hX
  clear hg1
  refine (below_c k ((n : Int) + 1) _ hk (by omega) (by omega)).mono ?_
  rintro e w3 ⟨rfl, rfl⟩
  obtain ⟨K, hK⟩ : ∃ K : Nat, k % ((n : Int) + 1) = (K : Int) := ⟨(k % ((n : Int) + 1)).toNat, by have := Int.emod_nonneg k (b := (n : Int) + 1) (by omega); omega⟩
  have hKn : K ≤ n := by have := Int.emod_lt_of_pos k (b := (n : Int) + 1) (by omega); omega
  rw [hK]
  have HK := Lib.hid hK; clear hK
  go_wp2_with fail
  refine (clone_c ds A n c _ (hd.below hb1) HA.out hnc HA2.out hn).mono ?_
  rintro e w3 ⟨A3, c3, rfl, hown3, hb3⟩
  have hX3 := heap_below hX hb3
  have hbel3 := below_then hb3 hb1 hz2
  rw [HL.out] at hown3
  rw [HL.out]
  clear hX
  go_wp2_with fail
  refine (reverse_any ds w2.heap.size A3 n c3 _ hown3 HL.out hn).mono ?_
  rintro e w4 ⟨rfl, hown4, hb4⟩
  have hX4 := (hb4.block w1.heap.size hlx).trans hX3
  have hbel4 := hbel3.trans (hb4.mono hz2)
  clear hown3 hX3 hbel3 hb3 hb4
  go_wp2_with fail
  refine (sum_c' ds.reverse A3 n c3 _ (Decs.of_own hown4 HWF.out) (by omega)).mono ?_
  rintro e w5 ⟨rfl, hb5⟩
  rw [HR.out]
  have hX5 := heap_below hX4 hb5
  have hbel5 := below_then hb5 hbel4 hbel4.size
  have hz5 := hbel5.size
  clear hown4 hX4 hbel4 hb5
  obtain ⟨x0, x1, -, -, xz⟩ := box2 hX5
  go_wp2_with fail
  refine (awake_c _).mono ?_
  rintro e w6 ⟨rfl, hb6⟩
  have hX6 := heap_below (heap_old hX5 _) hb6
  have hbel6 := below_then hb6 (hbel5.alloc hz5 _) (by simp; omega)
  have hz6 := hbel6.size
  clear hX5 hbel5 hb6 hz5 x0 x1 xz
  go_wp2_with fail
  refine (sum_c' (ds.take K) A K c _ (((hd.below hbel6)).take hKn) (by omega)).mono ?_
  rintro e w7 ⟨rfl, hb7⟩
  have hX7 := heap_below hX6 hb7
  have hbel7 := below_then hb7 hbel6 hz6
  have hz7 := hbel7.size
  clear hX6 hbel6 hb7 hz6
  obtain ⟨⟨a, q, fa⟩, hsa⟩ : ∃ R, sumR (ds.take K) = R := ⟨_, rfl⟩
  have HSA := Lib.hid hsa
  rw [hsa]
  clear hsa
  have hXA := heap_old hX7 (.cells #[.int .i64 a, .int .i64 q] 24)
  have hAA := heap_new w7 (.cells #[.int .i64 a, .int .i64 q] 24) rfl
  have hbelA := hbel7.alloc hz7 (.cells #[.int .i64 a, .int .i64 q] 24)
  have hla := lt_heap hAA
  have hAX : w1.heap.size ≠ w7.heap.size := by have := lt_heap hX7; omega
  by_cases hcK : c = K
  all_goals
    go_wp2_with fail
    generalize w7.alloc (.cells #[.int .i64 a, .int .i64 q] 24) = w8 at hXA hAA hbelA hla ⊢
    refine (sum_c' (ds.drop K) _ (n - K) _ _ ?_ (by omega)).mono ?_
    · first
        | exact Decs.none_ (by omega) (by rw [List.drop_of_length_le]; rw [HL.out]; omega)
        | exact (hd.below hbelA).drop hKn
    rintro e w9 ⟨rfl, hb9⟩
    have hX9 := heap_below hXA hb9
    have hA9 := heap_below hAA hb9
    have hbel9 := below_then hb9 hbelA hbelA.size
    have hz9 := hbel9.size
    have hl9 := hb9.size
    clear hXA hAA hbelA hb9
    obtain ⟨⟨b, r, fb⟩, hsb⟩ : ∃ R, sumR (ds.drop K) = R := ⟨_, rfl⟩
    have HSB := Lib.hid hsb
    rw [hsb]
    clear hsb
    by_cases hfa : fa = 0
    · subst hfa
      by_cases hfb : fb = 0
      · subst hfb
        have hXB := heap_old hX9 (.cells #[.int .i64 b, .int .i64 r] 24)
        have hAB := heap_old hA9 (.cells #[.int .i64 b, .int .i64 r] 24)
        have hBB := heap_new w9 (.cells #[.int .i64 b, .int .i64 r] 24) rfl
        have hbelB := hbel9.alloc hz9 (.cells #[.int .i64 b, .int .i64 r] 24)
        obtain ⟨a0, a1, -, -, za⟩ := box2 hA9
        go_wp2_with fail
        have hda := (sum_exact HSA.out).1
        have hdb := (sum_exact HSB.out).1
        have hda' := decB_out hda
        have hdb' := decB_out hdb
        have HP := Lib.hid (sum_parts HS.out HSA.out HSB.out)
        clear hda hdb
        refine (sum_c' [(a, q), (b, r)] _ 2 2 _ (decs_two _ _ (by simp) (by omega) (by omega) (by omega) (by omega)) (by omega)).mono ?_
        rintro e w10 ⟨rfl, hb10⟩
        have hX10 := heap_below (heap_old hXB _) hb10
        have hbel10 := below_then hb10 (hbelB.alloc hbelB.size _) (by simp; omega)
        have hz10 := hbel10.size
        clear hXB hAB hBB hb10 hbelB
        obtain ⟨⟨z, t, f⟩, hsz⟩ : ∃ R, sumR [(a, q), (b, r)] = R := ⟨_, rfl⟩
        have HSZ := Lib.hid hsz
        rw [hsz]
        clear hsz
        rcases HP.out with h | ⟨z', t', h, hdx, hdz, hsgn⟩
        · rw [HSZ.out] at h
          simp only at h
          subst h
          clear HP HSZ
          go_wp2
          go_ret
          exact ⟨rfl, by go_grown⟩
        · rw [HSZ.out] at h
          simp only [Prod.mk.injEq] at h
          obtain ⟨rfl, rfl, rfl⟩ := h
          have HD1 := Lib.hid hdx; have HD2 := Lib.hid hdz; have HSG := Lib.hid hsgn
          clear HP HSZ hdx hdz hsgn
          have hX11 := heap_old hX10 (.cells #[.int .i64 z, .int .i64 t] 24)
          have hbel11 := hbel10.alloc hz10 (.cells #[.int .i64 z, .int .i64 t] 24)
          obtain ⟨x0, x1, -, -, xz⟩ := box2 hX10
          go_wp2_with fail
          refine (cmp_ok x p z t _ HD1.out HD2.out).mono ?_
          rintro e w12 ⟨rfl, hb12⟩
          rw [HSG.out]
          go_wp2
          go_ret
          exact ⟨rfl, below_then hb12 hbel11 hbel11.size⟩
      · have hf' : (fb != 0) = true := by simpa using hfb
        go_wp2
        go_ret
        exact ⟨rfl, by go_grown⟩
    · have hf' : (fa != 0) = true := by simpa using hfa
      go_wp2
      go_ret
      exact ⟨rfl, by go_grown⟩

end Go.Proofs.Ytjhinelbejjafaa
