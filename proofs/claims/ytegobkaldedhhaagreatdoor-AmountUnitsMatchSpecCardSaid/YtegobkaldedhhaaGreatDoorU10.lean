
/- The walk of package amount: Factor. -/
import Derived.Test.YtegobkaldedhhaaGreatDoorU9
namespace Go.Proofs.YtegobkaldedhhaaGreatDoor
open Go.RowKit Limb
set_option linter.unusedVariables false
set_option linter.unusedSimpArgs false

theorem digV_gA {l : List Nat} {k : Nat} (h : k < l.length) : (digV .i64 l)[k]? = some (.int .i64 ((gA l k : Nat) : Int)) := by
  unfold digV
  rw [List.getElem?_map, List.getElem?_eq_getElem h, gA_get h]; rfl
theorem Pair.set1 {B g m c m2 i x : Nat} {w : World} {V2 : Value} {N ys : List Nat} (h : Pair B w (.slice (some ⟨g, 0, none⟩) m c) m N V2 m2 ys) :
    Pair B (w.setCell ⟨g, i, none⟩ (.int .i64 ((x : Nat) : Int))) (.slice (some ⟨g, 0, none⟩) m c) m (N.set i x) V2 m2 ys := by
  obtain ⟨h1, h2⟩ := h.o1.stored i (.int .i64 ((x : Nat) : Int))
  refine ⟨by rw [digV_set]; exact h1, h.o2.kept h2 ?_, h.ne⟩
  rcases hv : V2.ownBlock with _ | g'
  · exact .inl rfl
  · right
    intro e
    exact h.ne g rfl (hv.trans e)
theorem Pair.set2 {B g m c m2 i x : Nat} {w : World} {V1 : Value} {N ys : List Nat} (h : Pair B w V1 m2 ys (.slice (some ⟨g, 0, none⟩) m c) m N) :
    Pair B (w.setCell ⟨g, i, none⟩ (.int .i64 ((x : Nat) : Int))) V1 m2 ys (.slice (some ⟨g, 0, none⟩) m c) m (N.set i x) := h.swap.set1.swap
theorem Pair.drewN {B m1 m2 : Nat} {w : World} {V1 V2 : Value} {xs ys : List Nat} (h : Pair B w V1 m1 xs V2 m2 ys) (q : Nat) : Pair B (w.drewN q) V1 m1 xs V2 m2 ys :=
  h.below (below_drewN (Below.refl _ _) q)
theorem own_some {w : World} {B m c : Nat} {A : Option Addr} {xs : List Value} (h : w.ownsRow B 3 1 (.slice A m c) m xs) (hm : 0 < m) : ∃ g, A = some ⟨g, 0, none⟩ ∧ B ≤ g ∧ g < w.heap.size := by
  rcases h.2 with ⟨hv, hn⟩ | ⟨g, cap, cur, hv, hb, hh, _⟩
  · omega
  · injection hv with e1 e2 e3
    exact ⟨g, e1, hb, lt_heap hh⟩

def RetQ (r : Int × Int × Int) (w : World) (e : Ending) (w' : World) : Prop :=
  e = .returned (.tuple #[.agg #[.int .i64 r.1, .int .i64 r.2.1], .int .i64 r.2.2]) ∧ Below w.heap.size w w'

theorem rat_fault {us : List Unt} {x y : List UInt8} (h : facF us x y ≠ 0) : ratR us x y = (0, 0, facF us x y) := by unfold ratR; rw [if_pos h]
theorem rat_ok {us : List Unt} {x y : List UInt8} {i k : Nat} (h : facF us x y = 0) (hx : idxU us x = some i) (hy : idxU us y = some k) : ratR us x y = lowest (prodN (topL us i k)) (prodN (botL us i k)) := by
  unfold ratR; rw [if_neg (by omega), hx, hy]; rfl
theorem low_in {N0 D0 N D : List Nat} {i : Nat} (h : Canc N0 D0 N D i 0) (hi : i = N0.length) (h0 : ∀ x ∈ D0, 1 ≤ x) :
    (prodN N ≤ 1000000000000000 → prodN D ≤ 1000000000000000 → lowest (prodN N0) (prodN D0) = (((prodN N : Nat) : Int), ((prodN D : Nat) : Int), 0)) ∧
    (¬ (prodN N ≤ 1000000000000000 ∧ prodN D ≤ 1000000000000000) → lowest (prodN N0) (prodN D0) = (0, 0, 1)) := by
  obtain ⟨e1, e2⟩ := h.done hi h0
  unfold lowest
  rw [e1, e2]
  exact ⟨fun a b => by rw [if_pos ⟨a, b⟩], fun a => by rw [if_neg a]⟩

set_option maxHeartbeats 8000000 in
set_option maxRecDepth 100000 in
theorem Factor_c (us : List Unt) (x y : ByteArray) (A : Option Addr) (n c : Nat) (w : World) (hU : Uns w A n us) (hn : n ≤ 9223372036854775807) :
    Calls Tryz.prog 7 #[.slice A n c, .string x, .string y] w (RetQ (ratR us x.data.toList y.data.toList) w) := by
  have HL := Lib.hid hU.1
  go_enter Tryz.func7, Tryz.ntmps7
  go_wp2_with fail
  refine (factor_c us x y A n c _ (hU.alloc _) hn).mono ?_
  rintro e w1 ⟨hb1, ⟨hf, rfl⟩ | ⟨i0, k0, m, A1, c1, A2, c2, hf, hck, hix, hiy, hm1, hm2, rfl, HP⟩⟩
  · have hR := heap_below (heap_new w _ rfl) hb1
    obtain ⟨g0, g1, g2, g3, g4⟩ := box2 hR
    have K := Lib.hid (rat_fault hf)
    have hf' : (facF us x.data.toList y.data.toList != 0) = true := by simpa using hf
    have hbel := below_then hb1 (w := w) (B := w.heap.size) (by go_grown) (by simp only [World.size_alloc]; omega)
    clear hf hb1
    generalize facF us x.data.toList y.data.toList = F at hf' K ⊢
    go_wp2
    refine bodyPost_ret (v := .tuple #[.agg #[.int .i64 0, .int .i64 0], .int .i64 F]) (by simp [results, Tryz.results7, go_sem, g0, g1]) rfl ⟨by rw [K.out], ?_⟩
    go_grown
  have hrk := rat_ok hf hix hiy
  obtain ⟨hi1, -⟩ := idxU_some hix
  obtain ⟨hk1, -⟩ := idxU_some hiy
  obtain ⟨t1, t2, t3, t4⟩ := top_bounds hck hi1 hk1
  obtain ⟨N0, hN0⟩ : ∃ N0, topL us i0 k0 = N0 := ⟨_, rfl⟩
  obtain ⟨D0, hD0⟩ : ∃ D0, botL us i0 k0 = D0 := ⟨_, rfl⟩
  rw [hN0] at hm1 HP t1 t2 hrk
  rw [hD0] at hm2 HP t3 t4 hrk
  have K := Lib.hid hrk
  have hC0 := Lib.hid (Canc.start t1 t3)
  have HD0 := Lib.hid (show ∀ x ∈ D0, 1 ≤ x from fun x hx => (t3 x hx).1)
  have HM1 := Lib.hid hm1; have HM2 := Lib.hid hm2
  have hm10 : m ≤ 10 := by rw [hm1] at t2; exact t2
  have hR := heap_below (heap_new w _ rfl) hb1
  have hbel := below_then hb1 (w := w) (B := w.heap.size) (by go_grown) (by simp only [World.size_alloc]; omega)
  rw [World.size_alloc] at HP
  have HP1 := Lib.hid HP
  clear hf hix hiy hi1 hk1 t1 t2 t3 t4 hN0 hD0 hm1 hm2 hck hb1 HP hrk
  go_wp2
  go_loopw [32] (fun v32 wr => ∃ (i : Nat) (N D : List Nat), i ≤ m ∧ v32 = .int .i64 (i : Int) ∧ Hid (Canc N0 D0 N D i 0) ∧ Hid (Pair (w.heap.size + 1) wr (.slice A1 m c1) m N (.slice A2 m c2) m D) ∧
      wr.heap[w.heap.size]? = some (.cells #[.int .i64 0, .int .i64 0] 26 (0, 0)) ∧ Below w.heap.size w wr) (fun v32 _ => m - (intOf v32).toNat)
  case atStart => exact ⟨0, N0, D0, Nat.zero_le _, rfl, hC0, HP1, hR, hbel⟩
  case round =>
    clear hR hbel HP1
    obtain ⟨i, N, D, hi, rfl, HC, HP, hR, hbel⟩ := hrel
    rcases Nat.lt_or_ge i m with hin | hin
    · go_wp2
      obtain ⟨wl, hwl⟩ : ∃ wl : World, wl = wr := ⟨_, rfl⟩
      rw [← hwl] at HP hbel hR ⊢
      clear hwl
      go_loopw [37] (fun v37 wr => ∃ (k : Nat) (N D : List Nat), k ≤ m ∧ v37 = .int .i64 (k : Int) ∧ Hid (Canc N0 D0 N D i k) ∧ Hid (Pair (w.heap.size + 1) wr (.slice A1 m c1) m N (.slice A2 m c2) m D) ∧
          wr.heap[w.heap.size]? = some (.cells #[.int .i64 0, .int .i64 0] 26 (0, 0)) ∧ Below w.heap.size w wr) (fun v37 _ => m - (intOf v37).toNat)
      case atStart => exact ⟨0, N, D, Nat.zero_le _, rfl, HC, HP, hR, hbel⟩
      case round =>
        clear hR hbel HP HC N D
        obtain ⟨k, N, D, hk, rfl, HC, HP, hR, hbel⟩ := hrel
        rcases Nat.lt_or_ge k m with hkn | hkn
        · have hiN : i < N.length := by rw [HC.out.ln, HM1.out]; exact hin
          have hkD : k < D.length := by rw [HC.out.ld, HM2.out]; exact hkn
          obtain ⟨ga, e1, hga, hgl⟩ := own_some HP.out.o1 (by omega)
          obtain ⟨gb, e2, hgb, hgl2⟩ := own_some HP.out.o2 (by omega)
          have hne : ga ≠ gb := by
            have := HP.out.ne ga (by rw [e1]; rfl)
            rw [e2] at this
            intro h; exact this (by rw [h]; rfl)
          rw [e1, e2] at HP ⊢
          have c1a := HP.out.o1.cellAt i (by omega)
          have c2a := HP.out.o2.cellAt k (by omega)
          rw [digV_gA hiN] at c1a
          rw [digV_gA hkD] at c2a
          have z1 := HP.out.o1.frozenAt i
          have z2 := HP.out.o2.frozenAt k
          have b1 := HC.out.bn _ (mem_gA hiN)
          have b2 := HC.out.bd _ (mem_gA hkD)
          have hst := HC.out.step (by rw [HM1.out]; exact hin) (by rw [HM2.out]; exact hkn)
          obtain ⟨p, hp⟩ : ∃ p, gA N i = p := ⟨_, rfl⟩
          obtain ⟨q, hq⟩ : ∃ q, gA D k = q := ⟨_, rfl⟩
          rw [hp] at c1a b1 hst
          rw [hq] at c2a b2 hst
          have hg1 : 1 ≤ Nat.gcd p q := Nat.gcd_pos_of_pos_left _ (by omega)
          have hg2 : Nat.gcd p q ≤ p := Nat.gcd_le_left _ (by omega)
          have HDV := Lib.hid (fun W => divisor_c p q W (by omega) (by omega))
          obtain ⟨g, hg⟩ : ∃ g, Nat.gcd p q = g := ⟨_, rfl⟩
          rw [hg] at hg1 hg2 hst HDV
          have HST := Lib.hid hst
          have i1 : (1 : Int) ≤ (g : Int) := by omega
          have i2 : (0 : Int) ≤ (p : Int) := by omega
          have i3 : (0 : Int) ≤ (q : Int) := by omega
          have i4 : (p : Int) ≤ 1000000 := by omega
          have i5 : (q : Int) ≤ 1000000 := by omega
          have i6 : (p : Int) / (g : Int) ≤ 1000000 := Int.le_trans (Int.ediv_le_self _ i2) i4
          have i7 : (0 : Int) ≤ (p : Int) / (g : Int) := Int.ediv_nonneg i2 (by omega)
          have i8 : (q : Int) / (g : Int) ≤ 1000000 := Int.le_trans (Int.ediv_le_self _ i3) i5
          have i9 : (0 : Int) ≤ (q : Int) / (g : Int) := Int.ediv_nonneg i3 (by omega)
          have HQ := Lib.hid hq
          clear hp hq hg hst b1 b2 hiN hkD e1 e2
          go_wp2_with fail
          go_quiet ((go_at_call 26; exact Calls.quiet_of (HDV.out _)))
          go_upto_region 12 with fail
          clear i6 i7 c1a z1 z2
          have hP1 := (HP.out.drewN nq).set1 (i := i) (x := p / g)
          have hR1 := heap_far (w := wr.drewN nq) hR (p := ⟨ga, i, none⟩) (by dsimp only; omega) (.int .i64 (((p / g : Nat) : Nat) : Int))
          have hb1 := (below_drewN hbel nq).setCell (p := ⟨ga, i, none⟩) (by dsimp only; omega) (.int .i64 (((p / g : Nat) : Nat) : Int))
          rw [show ((p : Int) / (g : Int)) = (((p / g : Nat) : Nat) : Int) from (Int.natCast_ediv p g).symm]
          generalize (wr.drewN nq).setCell ⟨ga, i, none⟩ (.int .i64 (((p / g : Nat) : Nat) : Int)) = w2 at hP1 hR1 hb1 ⊢
          have hkD : k < D.length := by rw [HC.out.ld, HM2.out]; exact hkn
          have c2b := hP1.o2.cellAt k (by omega)
          rw [digV_gA hkD] at c2b
          have z3 := hP1.o2.frozenAt k
          rw [HQ.out] at c2b
          have HP2 := Lib.hid hP1
          clear hP1 hkD c2a hR hbel HP
          go_wp2
          have hP3 := HP2.out.set2 (i := k) (x := q / g)
          have hR3 := heap_far hR1 (p := ⟨gb, k, none⟩) (by dsimp only; omega) (.int .i64 (((q / g : Nat) : Nat) : Int))
          have hb3 := hb1.setCell (p := ⟨gb, k, none⟩) (by dsimp only; omega) (.int .i64 (((q / g : Nat) : Nat) : Int))
          rw [show ((q : Int) / (g : Int)) = (((q / g : Nat) : Nat) : Int) from (Int.natCast_ediv q g).symm]
          go_roundw
          case rel => exact ⟨k + 1, _, _, by omega, by go_num, HST, Lib.hid hP3, hR3, hb3⟩
          case measure => simp [intOf]; omega
        · obtain rfl : k = m := by omega
          have HC2 := Lib.hid (HC.out.row HM2.out.symm)
          go_wp2
          go_roundw
          case rel => exact ⟨i + 1, N, D, by omega, by go_num, HC2, HP, hR, hbel⟩
          case measure => simp [intOf]; omega
    · obtain rfl : i = m := by omega
      have HLOW := Lib.hid (low_in HC.out HM1.out.symm HD0.out)
      have hzr := hbel.size
      have hlr := lt_heap hR
      have hlN : N.length = i := by rw [HC.out.ln]; exact HM1.out
      have hlD : D.length = i := by rw [HC.out.ld]; exact HM2.out
      have hdN := Dig.of_own HP.out.o1
      have hdD := Dig.of_own HP.out.o2
      have HBN := Lib.hid HC.out.bn; have HBD := Lib.hid HC.out.bd
      go_wp2_with fail
      refine (product_c N A1 i c1 _ hdN HBN.out hm10).mono ?_
      rintro e w2 ⟨s2, B2, n2, d2, rfl, hv2, hb2⟩
      have hR2 := heap_below hR hb2
      have hbel2 := below_then hb2 hbel hzr
      have hdD2 := hdD.below hb2
      go_wp2_with fail
      refine (int_c _ 1000000000000000 hv2 (by omega)).mono ?_
      rintro e w3 ⟨rfl, hb3⟩
      have hR3 := heap_below hR2 hb3
      have hbel3 := below_then hb3 hbel2 hbel2.size
      have hdD3 := hdD2.below hb3
      clear hb2 hb3 hR hR2 hbel hbel2 hdN hdD hdD2 hv2 HP
      go_wp2_with fail
      refine (product_c D A2 i c2 _ hdD3 HBD.out hm10).mono ?_
      rintro e w4 ⟨s4, B4, n4, d4, rfl, hv4, hb4⟩
      have hR4 := heap_below hR3 hb4
      have hbel4 := below_then hb4 hbel3 hbel3.size
      go_wp2_with fail
      refine (int_c _ 1000000000000000 hv4 (by omega)).mono ?_
      rintro e w5 ⟨rfl, hb5⟩
      have hR5 := heap_below hR4 hb5
      have hbel5 := below_then hb5 hbel4 hbel4.size
      clear hb4 hb5 hR3 hR4 hbel3 hbel4 hdD3 hv4
      obtain ⟨g0, g1, g2, g3, g4⟩ := box2 hR5
      obtain ⟨X, hX⟩ : ∃ X, prodN N = X := ⟨_, rfl⟩
      obtain ⟨Y, hY⟩ : ∃ Y, prodN D = Y := ⟨_, rfl⟩
      rw [hX, hY] at HLOW
      rw [hX, hY]
      have HXX := Lib.hid hX; have HYY := Lib.hid hY
      clear hX hY
      by_cases x1 : X ≤ 1000000000000000
      · by_cases y1 : Y ≤ 1000000000000000
        · have v1 := made_fit ((X : Nat) : Int) 0 (by omega)
          have v2 := made_fit ((Y : Nat) : Int) 0 (by omega)
          rw [v1.2.1, v1.2.2, v2.2.1, v2.2.2]
          have HE := Lib.hid (K.out.trans (HLOW.out.1 x1 y1))
          clear v1 v2
          go_wp2
          refine bodyPost_ret (v := .tuple #[.agg #[.int .i64 (X : Int), .int .i64 (Y : Int)], .int .i64 0]) (by simp [results, Tryz.results7, go_sem, g0, g1]) rfl ⟨by rw [HE.out], ?_⟩
          go_grown
        · have v1 := made_fit ((X : Nat) : Int) 0 (by omega)
          have v2 := made_not ((Y : Nat) : Int) 0 (by omega)
          rw [v1.2.1, v1.2.2, v2.2.1, v2.2.2]
          have HE := Lib.hid (K.out.trans (HLOW.out.2 (fun h => y1 h.2)))
          clear v1 v2
          go_wp2
          refine bodyPost_ret (v := .tuple #[.agg #[.int .i64 0, .int .i64 0], .int .i64 1]) (by simp [results, Tryz.results7, go_sem, g0, g1]) rfl ⟨by rw [HE.out], ?_⟩
          go_grown
      · have v1 := made_not ((X : Nat) : Int) 0 (by omega)
        rw [v1.2.1, v1.2.2]
        have HE := Lib.hid (K.out.trans (HLOW.out.2 (fun h => x1 h.1)))
        clear v1
        go_wp2
        refine bodyPost_ret (v := .tuple #[.agg #[.int .i64 0, .int .i64 0], .int .i64 1]) (by simp [results, Tryz.results7, go_sem, g0, g1]) rfl ⟨by rw [HE.out], ?_⟩
        go_grown
end Go.Proofs.YtegobkaldedhhaaGreatDoor
