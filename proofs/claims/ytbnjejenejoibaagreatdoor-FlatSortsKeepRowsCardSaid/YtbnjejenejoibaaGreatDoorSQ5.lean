
/- The walk of the stable sort: the merging in place, where one part has one share alone. -/
import Derived.Test.YtbnjejenejoibaaGreatDoorSQX
namespace Go.Proofs.YtbnjejenejoibaaGreatDoor
open Go.RowKit Limb Stab
set_option linter.unusedVariables false
set_option linter.unusedSimpArgs false
theorem mrg_one {r f : Nat -> Nat} {a b i : Nat} (h2 : Srt r f (a + 1) b) (hc : Crs r f a (a + 1) b) (hi : a + 1 <= i) (hb : i <= b) (c1 : ∀ h, a + 1 <= h -> h < i -> r (f a) < r (f h)) (c2 : ∀ h, i <= h -> h < b -> r (f h) <= r (f a)) :
  Mrg r f (rot f a (a + 1) i) a b := by
 have h1 : Srt r f a (a + 1) := fun x y _ _ _ => by omega
 refine ⟨fun x hx => rot_out (by omega) hi (by omega), fun x hx hxb => rot_in (Nat.le_refl a) (by omega) hi hb x hx hxb, ?_⟩
 refine Srt.join (m := a + (i - (a + 1))) (rot_srt2 h2 (by omega) hi hb) (Srt.join (m := i) (rot_srt3 h1 (Nat.le_refl a) (by omega) hi) (rot_srt4 h2 (by omega) hi) ?_) ?_
 ·intro x y hx hxi hy hyb
  rw [rot_r (by omega), rot_out (by omega) hi (by omega), show x - (i - (a + 1)) = a by omega]
  have k := c2 y hy hyb
  rcases Nat.lt_or_ge (r (f y)) (r (f a)) with h | h
  ·exact .inl h
  ·exact .inr ⟨by omega, hc a y (Nat.le_refl a) (by omega) (by omega) hyb (by omega)⟩
 ·exact rot_before h1 h2 hc (Nat.le_refl a) (by omega) hi hb (fun _ h => c1 _ (by omega) (by omega)) (fun h => absurd h (by omega))
theorem mrg_last {r f : Nat -> Nat} {a m i : Nat} (h1 : Srt r f a m) (hc : Crs r f a m (m + 1)) (ha : a <= i) (hi : i <= m) (c1 : ∀ h, i <= h -> h < m -> r (f h) < r (f m)) (c2 : ∀ h, a <= h -> h < i -> r (f m) <= r (f h)) :
  Mrg r f (rot f i m (m + 1)) a (m + 1) := by
 have h2 : Srt r f m (m + 1) := fun x y _ _ _ => by omega
 refine ⟨fun x hx => rot_out hi (by omega) (by omega), fun x hx hxb => rot_in ha hi (by omega) (Nat.le_refl _) x hx hxb, ?_⟩
 refine Srt.join (m := i + (m + 1 - m)) (Srt.join (m := i) (rot_srt1 h1 ha hi (by omega)) (rot_srt2 h2 hi (by omega) (Nat.le_refl _)) ?_) (rot_srt3 h1 ha hi (by omega)) ?_
 ·intro x y hx hxi hy hyb
  rw [rot_out hi (by omega) (by omega), rot_l (by omega), show y + (m - i) = m by omega]
  have k := c2 x hx hxi
  rcases Nat.lt_or_ge (r (f m)) (r (f x)) with h | h
  ·exact .inl h
  ·exact .inr ⟨by omega, hc x m hx (by omega) (Nat.le_refl m) (by omega) (by omega)⟩
 ·exact rot_before h1 h2 hc ha hi (by omega) (Nat.le_refl _) (fun h _ => by rw [show m + 1 - 1 = m by omega]; exact c1 i (Nat.le_refl i) h) (fun _ h => absurd h (by omega))
set_option maxHeartbeats 4000000 in
set_option maxRecDepth 100000 in
theorem merge_one (F : Fam) (G : F.Good) {f : Nat -> Nat} {w : World} (R : F.Row f w) (a m b cap : Nat) (hm : m = a + 1) (hmb : m < b) (hb : b <= F.n) (h2 : Srt F.r f m b) (hc : Crs F.r f a m b) :
  Calls Tryz.prog 81 #[.slice (some ⟨F.blk, F.off, none⟩) F.n cap, .int .i64 (a : Int), .int .i64 (m : Int), .int .i64 (b : Int), (.func (.func 19) #[] #[.pointer (some ⟨F.kb, 0, none⟩)])] w fun e w' => e = .returned (.tuple #[]) /\ ∃ g, F.Row g w' /\ Mrg F.r f g a b := by
 have few := G.few
 have HR0 := Lib.hid R; have H2 := Lib.hid h2; have HC := Lib.hid hc
 clear R h2 hc
 have hma : ((m : Int) - (a : Int) == 1) = true := by rw [beq_iff_eq]; omega
 have HMA := Lib.hid hm
 have ham : a < m := by omega
 clear hm
 go_enter Tryz.func81, Tryz.ntmps81
 go_wp2
 go_loopw [10, 11] (fun v1 v2 wr => ∃ (i j : Nat), m <= i /\ i <= j /\ j <= b /\ v1 = .int .i64 (i : Int) /\ v2 = .int .i64 (j : Int) /\ F.Row f wr /\ Hid (∀ h, m <= h -> h < i -> F.r (f a) < F.r (f h)) /\ Hid (∀ h, j <= h -> h < b -> F.r (f h) <= F.r (f a))) (fun v1 v2 _ => (intOf v2).toNat - (intOf v1).toNat)
 case atStart => exact ⟨m, b, Nat.le_refl _, by omega, Nat.le_refl _, rfl, rfl, HR0.out, fun h h1 h2 => by omega, fun h h1 h2 => by omega⟩
 case round =>
  obtain ⟨i, j, hmi, hij, hjb, rfl, rfl, R, P1, P2⟩ := hrel
  clear HR0
  rcases Nat.lt_or_ge i j with hlt | hge
  ·obtain ⟨u, hu⟩ : ∃ u, u = (i + j) / 2 := ⟨_, rfl⟩
   have hui : i <= u := by omega
   have huj : u < j := by omega
   have hun : ((u : Nat) : Int) < (F.n : Int) := by omega
   have han : ((a : Nat) : Int) < (F.n : Int) := by omega
   have HU := Lib.hid hu
   clear hu
   obtain ⟨X, hX⟩ : ∃ X, f u = X := ⟨_, rfl⟩
   obtain ⟨Y, hY⟩ : ∃ Y, f a = Y := ⟨_, rfl⟩
   obtain ⟨a0, a1⟩ := R.two (j := u) (by omega)
   obtain ⟨b0, b1⟩ := R.two (j := a) (by omega)
   rw [hX] at a0 a1
   rw [hY] at b0 b1
   have hXn : X < F.n := by obtain ⟨g, hg⟩ := R.bij; rw [<- hX]; exact (hg u (by omega)).1
   have hYn : Y < F.n := by obtain ⟨g, hg⟩ := R.bij; rw [<- hY]; exact (hg a (by omega)).1
   have HX := Lib.hid hX; have HY := Lib.hid hY
   have HR2 := Lib.hid R
   clear hX hY R
   by_cases hcmp : F.r Y < F.r X
   ·have hsg : F.cf X Y < 0 := (G.cmp X Y hXn hYn).2 hcmp
    obtain ⟨σ, hσ⟩ : ∃ σ, F.cf X Y = σ := ⟨_, rfl⟩
    rw [hσ] at hsg
    have hsb : (!decide (σ < 0)) = false := by rw [decide_eq_true hsg]; rfl
    have HSG := Lib.hid hσ; clear hσ
    go_wp2_with fail
    rw [show (((i : Nat) : Int) + ((j : Nat) : Int)) / 2 = ((u : Nat) : Int) by have := HU.out; omega]
    go_region_held3 (fun w' => w'.cell? ⟨F.blk, F.off + u * 2, none⟩ = some (.slice (F.A X) (F.m X) (F.c X)) /\ w'.cell? ⟨F.blk, F.off + u * 2 + 1, none⟩ = some (.string (F.V X)) /\ w'.cell? ⟨F.blk, F.off + a * 2, none⟩ = some (.slice (F.A Y) (F.m Y) (F.c Y)) /\ w'.cell? ⟨F.blk, F.off + a * 2 + 1, none⟩ = some (.string (F.V Y)))
     (first | (with_reducible exact ⟨c0, c1, d0, d1⟩) | (exact ⟨a0, a1, b0, b1⟩))
     (first
      | (go_at_call 19; refine (test_c F G HR2.out.drew hXn hYn).mono ?_; rintro e w2 ⟨rfl, hb2⟩; rw [HSG.out]; have R3 := HR2.out.drew.below hb2; obtain ⟨c0, c1⟩ := R3.two (j := u) (by omega); obtain ⟨d0, d1⟩ := R3.two (j := a) (by omega); rw [HX.out] at c0 c1; rw [HY.out] at d0 d1))
    have CMP := Lib.hid hcmp
    have HR3 := Lib.hid R3
    clear a0 a1 b0 b1 c0 c1 d0 d1 R3 hb2 HR2 hcmp hXn hYn
    go_wp2
    go_roundw
    case rel =>
     refine ⟨u + 1, j, by omega, by omega, hjb, by go_num, rfl, HR3.out, fun h h1 h3 => ?_, P2⟩
     have k := H2.out.le (x := h) (y := u) h1 (by omega) (by omega)
     rw [HX.out] at k
     rw [HY.out]
     have := CMP.out
     omega
    case measure => simp [intOf]; omega
   ·have hsg : ¬ F.cf X Y < 0 := fun h => hcmp ((G.cmp X Y hXn hYn).1 h)
    obtain ⟨σ, hσ⟩ : ∃ σ, F.cf X Y = σ := ⟨_, rfl⟩
    rw [hσ] at hsg
    have hsb : (!decide (σ < 0)) = true := by rw [decide_eq_false hsg]; rfl
    have HSG := Lib.hid hσ; clear hσ
    go_wp2_with fail
    rw [show (((i : Nat) : Int) + ((j : Nat) : Int)) / 2 = ((u : Nat) : Int) by have := HU.out; omega]
    go_region_held3 (fun w' => w'.cell? ⟨F.blk, F.off + u * 2, none⟩ = some (.slice (F.A X) (F.m X) (F.c X)) /\ w'.cell? ⟨F.blk, F.off + u * 2 + 1, none⟩ = some (.string (F.V X)) /\ w'.cell? ⟨F.blk, F.off + a * 2, none⟩ = some (.slice (F.A Y) (F.m Y) (F.c Y)) /\ w'.cell? ⟨F.blk, F.off + a * 2 + 1, none⟩ = some (.string (F.V Y)))
     (first | (with_reducible exact ⟨c0, c1, d0, d1⟩) | (exact ⟨a0, a1, b0, b1⟩))
     (first
      | (go_at_call 19; refine (test_c F G HR2.out.drew hXn hYn).mono ?_; rintro e w2 ⟨rfl, hb2⟩; rw [HSG.out]; have R3 := HR2.out.drew.below hb2; obtain ⟨c0, c1⟩ := R3.two (j := u) (by omega); obtain ⟨d0, d1⟩ := R3.two (j := a) (by omega); rw [HX.out] at c0 c1; rw [HY.out] at d0 d1))
    have CMP := Lib.hid hcmp
    have HR3 := Lib.hid R3
    clear a0 a1 b0 b1 c0 c1 d0 d1 R3 hb2 HR2 hcmp hXn hYn
    go_wp2
    go_roundw
    case rel =>
     refine ⟨i, u, hmi, hui, by omega, rfl, rfl, HR3.out, P1, fun h h1 h3 => ?_⟩
     have k := H2.out.le (x := u) (y := h) (by omega) h1 h3
     rw [HX.out] at k
     rw [HY.out]
     have := CMP.out
     omega
    case measure => simp [intOf]; omega
  ·obtain rfl : i = j := by omega
   have hnl : ¬ (i : Int) < (i : Int) := by omega
   have HM := Lib.hid (mrg_one (i := i) (b := b) (by rw [<- HMA.out]; exact H2.out) (by rw [<- HMA.out]; exact HC.out) (by have := HMA.out; omega) hjb (fun h h1 h2 => P1.out h (by have := HMA.out; omega) h2) P2.out)
   have HR1 := Lib.hid (R.congr fun x _ => rot_none' f a (a + 1) x)
   clear R
   go_wp2
   go_loopw [13] (fun v3 wr => ∃ (k : Nat), a <= k /\ k + 1 <= i /\ v3 = .int .i64 (k : Int) /\ F.Row (rot f a (a + 1) (k + 1)) wr) (fun v3 _ => i - (intOf v3).toNat)
   case atStart => exact ⟨a, Nat.le_refl _, by omega, rfl, HR1.out⟩
   case round =>
    obtain ⟨k, hak, hki, rfl, R⟩ := hrel
    clear HR1
    rcases Nat.lt_or_ge (k + 1) i with hlk | hgk
    ·obtain ⟨v, hv⟩ : ∃ v, v = k + 1 := ⟨_, rfl⟩
     have hwv : IntKind.i64.wrap ((k : Int) + 1) = ((v : Nat) : Int) := by rw [IntWalk.i64_in _ (by omega)]; omega
     have hkv : k < v := by omega
     have hkn : ((k : Nat) : Int) < (F.n : Int) := by omega
     have hvn : ((v : Nat) : Int) < (F.n : Int) := by omega
     have hki2 : ((k : Nat) : Int) < (i : Int) - 1 := by omega
     obtain ⟨X, hX⟩ : ∃ X, rot f a (a + 1) (k + 1) k = X := ⟨_, rfl⟩
     obtain ⟨Y, hY⟩ : ∃ Y, rot f a (a + 1) (k + 1) v = Y := ⟨_, rfl⟩
     obtain ⟨a0, a1⟩ := R.two (j := k) (by omega)
     obtain ⟨b0, b1⟩ := R.two (j := v) (by omega)
     rw [hX] at a0 a1
     rw [hY] at b0 b1
     have HX := Lib.hid hX; have HY := Lib.hid hY
     have HS := Lib.hid (R.swap (i := k) (j := v) (by omega) (by omega)).drew
     have ia0 := R.ice (F.off + k * 2); have ia1 := R.ice (F.off + k * 2 + 1)
     have ib0 := R.ice (F.off + v * 2); have ib1 := R.ice (F.off + v * 2 + 1)
     clear R hX hY
     have HV := Lib.hid hv
     clear hv
     go_wp2_with fail
     go_region
     all_goals
      go_wp2
      go_roundw
      case rel =>
       refine ⟨k + 1, by omega, by omega, (by first | go_num | (congr 1; have := HV.out; omega)), ?_⟩
       have h9 := HS.out.congr (g := rot f a (a + 1) (k + 1 + 1)) fun x _ => by
        rw [HV.out]
        exact (rot_up f _ hak (fun _ => rfl) x).symm
       rw [HX.out, HY.out] at h9
       exact h9
      case measure => simp [intOf]; omega
    ·have e : k + 1 = i := by omega
     rw [e] at R
     have hki2 : ¬ ((k : Nat) : Int) < (i : Int) - 1 := by omega
     go_wp2
     refine bodyPost_ret (results_none rfl _ _ _) rfl ⟨rfl, _, R, HM.out⟩
set_option maxHeartbeats 4000000 in
set_option maxRecDepth 100000 in
theorem merge_last (F : Fam) (G : F.Good) {f : Nat -> Nat} {w : World} (R : F.Row f w) (a m b cap : Nat) (ham : a + 1 < m) (hmb : b = m + 1) (hb : b <= F.n) (h1 : Srt F.r f a m) (hc : Crs F.r f a m b) :
  Calls Tryz.prog 81 #[.slice (some ⟨F.blk, F.off, none⟩) F.n cap, .int .i64 (a : Int), .int .i64 (m : Int), .int .i64 (b : Int), (.func (.func 19) #[] #[.pointer (some ⟨F.kb, 0, none⟩)])] w fun e w' => e = .returned (.tuple #[]) /\ ∃ g, F.Row g w' /\ Mrg F.r f g a b := by
 have few := G.few
 have HR0 := Lib.hid R; have H1 := Lib.hid h1; have HC := Lib.hid hc
 clear R h1 hc
 have hma : ((m : Int) - (a : Int) == 1) = false := by
  rw [beq_eq_false_iff_ne]; omega
 have hbm : ((b : Int) - (m : Int) == 1) = true := by rw [beq_iff_eq]; omega
 have HMB := Lib.hid hmb
 have hmb2 : m < b := by omega
 clear hmb
 go_enter Tryz.func81, Tryz.ntmps81
 go_wp2
 go_loopw [14, 15] (fun v1 v2 wr => ∃ (i j : Nat), a <= i /\ i <= j /\ j <= m /\ v1 = .int .i64 (i : Int) /\ v2 = .int .i64 (j : Int) /\ F.Row f wr /\ Hid (∀ h, a <= h -> h < i -> F.r (f m) <= F.r (f h)) /\ Hid (∀ h, j <= h -> h < m -> F.r (f h) < F.r (f m))) (fun v1 v2 _ => (intOf v2).toNat - (intOf v1).toNat)
 case atStart => exact ⟨a, m, Nat.le_refl _, by omega, Nat.le_refl _, rfl, rfl, HR0.out, fun h h1 h2 => by omega, fun h h1 h2 => by omega⟩
 case round =>
  obtain ⟨i, j, hmi, hij, hjb, rfl, rfl, R, P1, P2⟩ := hrel
  clear HR0
  rcases Nat.lt_or_ge i j with hlt | hge
  ·obtain ⟨u, hu⟩ : ∃ u, u = (i + j) / 2 := ⟨_, rfl⟩
   have hui : i <= u := by omega
   have huj : u < j := by omega
   have hun : ((u : Nat) : Int) < (F.n : Int) := by omega
   have han : ((m : Nat) : Int) < (F.n : Int) := by omega
   have HU := Lib.hid hu
   clear hu
   obtain ⟨X, hX⟩ : ∃ X, f m = X := ⟨_, rfl⟩
   obtain ⟨Y, hY⟩ : ∃ Y, f u = Y := ⟨_, rfl⟩
   obtain ⟨a0, a1⟩ := R.two (j := m) (by omega)
   obtain ⟨b0, b1⟩ := R.two (j := u) (by omega)
   rw [hX] at a0 a1
   rw [hY] at b0 b1
   have hXn : X < F.n := by obtain ⟨g, hg⟩ := R.bij; rw [<- hX]; exact (hg m (by omega)).1
   have hYn : Y < F.n := by obtain ⟨g, hg⟩ := R.bij; rw [<- hY]; exact (hg u (by omega)).1
   have HX := Lib.hid hX; have HY := Lib.hid hY
   have HR2 := Lib.hid R
   clear hX hY R
   by_cases hcmp : F.r Y < F.r X
   ·have hsg : F.cf X Y < 0 := (G.cmp X Y hXn hYn).2 hcmp
    obtain ⟨σ, hσ⟩ : ∃ σ, F.cf X Y = σ := ⟨_, rfl⟩
    rw [hσ] at hsg
    have hsb : (!decide (σ < 0)) = false := by rw [decide_eq_true hsg]; rfl
    have HSG := Lib.hid hσ; clear hσ
    go_wp2_with fail
    rw [show (((i : Nat) : Int) + ((j : Nat) : Int)) / 2 = ((u : Nat) : Int) by have := HU.out; omega]
    go_region_held3 (fun w' => w'.cell? ⟨F.blk, F.off + m * 2, none⟩ = some (.slice (F.A X) (F.m X) (F.c X)) /\ w'.cell? ⟨F.blk, F.off + m * 2 + 1, none⟩ = some (.string (F.V X)) /\ w'.cell? ⟨F.blk, F.off + u * 2, none⟩ = some (.slice (F.A Y) (F.m Y) (F.c Y)) /\ w'.cell? ⟨F.blk, F.off + u * 2 + 1, none⟩ = some (.string (F.V Y)))
     (first | (with_reducible exact ⟨c0, c1, d0, d1⟩) | (exact ⟨a0, a1, b0, b1⟩))
     (first
      | (go_at_call 19; refine (test_c F G HR2.out.drew hXn hYn).mono ?_; rintro e w2 ⟨rfl, hb2⟩; rw [HSG.out]; have R3 := HR2.out.drew.below hb2; obtain ⟨c0, c1⟩ := R3.two (j := m) (by omega); obtain ⟨d0, d1⟩ := R3.two (j := u) (by omega); rw [HX.out] at c0 c1; rw [HY.out] at d0 d1))
    have CMP := Lib.hid hcmp
    have HR3 := Lib.hid R3
    clear a0 a1 b0 b1 c0 c1 d0 d1 R3 hb2 HR2 hcmp hXn hYn
    go_wp2
    go_roundw
    case rel =>
     refine ⟨i, u, hmi, hui, by omega, rfl, rfl, HR3.out, P1, fun h h1 h3 => ?_⟩
     have k := H1.out.le (x := u) (y := h) (by omega) h1 h3
     rw [HY.out] at k
     rw [HX.out]
     have := CMP.out
     omega
    case measure => simp [intOf]; omega
   ·have hsg : ¬ F.cf X Y < 0 := fun h => hcmp ((G.cmp X Y hXn hYn).1 h)
    obtain ⟨σ, hσ⟩ : ∃ σ, F.cf X Y = σ := ⟨_, rfl⟩
    rw [hσ] at hsg
    have hsb : (!decide (σ < 0)) = true := by rw [decide_eq_false hsg]; rfl
    have HSG := Lib.hid hσ; clear hσ
    go_wp2_with fail
    rw [show (((i : Nat) : Int) + ((j : Nat) : Int)) / 2 = ((u : Nat) : Int) by have := HU.out; omega]
    go_region_held3 (fun w' => w'.cell? ⟨F.blk, F.off + m * 2, none⟩ = some (.slice (F.A X) (F.m X) (F.c X)) /\ w'.cell? ⟨F.blk, F.off + m * 2 + 1, none⟩ = some (.string (F.V X)) /\ w'.cell? ⟨F.blk, F.off + u * 2, none⟩ = some (.slice (F.A Y) (F.m Y) (F.c Y)) /\ w'.cell? ⟨F.blk, F.off + u * 2 + 1, none⟩ = some (.string (F.V Y)))
     (first | (with_reducible exact ⟨c0, c1, d0, d1⟩) | (exact ⟨a0, a1, b0, b1⟩))
     (first
      | (go_at_call 19; refine (test_c F G HR2.out.drew hXn hYn).mono ?_; rintro e w2 ⟨rfl, hb2⟩; rw [HSG.out]; have R3 := HR2.out.drew.below hb2; obtain ⟨c0, c1⟩ := R3.two (j := m) (by omega); obtain ⟨d0, d1⟩ := R3.two (j := u) (by omega); rw [HX.out] at c0 c1; rw [HY.out] at d0 d1))
    have CMP := Lib.hid hcmp
    have HR3 := Lib.hid R3
    clear a0 a1 b0 b1 c0 c1 d0 d1 R3 hb2 HR2 hcmp hXn hYn
    go_wp2
    go_roundw
    case rel =>
     refine ⟨u + 1, j, by omega, by omega, hjb, by go_num, rfl, HR3.out, fun h h1 h3 => ?_, P2⟩
     have k := H1.out.le (x := h) (y := u) h1 (by omega) (by omega)
     rw [HY.out] at k
     rw [HX.out]
     have := CMP.out
     omega
    case measure => simp [intOf]; omega
  ·obtain rfl : i = j := by omega
   have hnl : ¬ (i : Int) < (i : Int) := by omega
   have HM := Lib.hid (mrg_last (r := F.r) (f := f) (i := i) (m := m) H1.out (by rw [<- HMB.out]; exact HC.out) hmi hjb P2.out P1.out)
   have HR1 := Lib.hid (R.congr fun x _ => rot_none f m (m + 1) x)
   clear R
   go_wp2
   go_loopw [17] (fun v3 wr => ∃ (k : Nat), i <= k /\ k <= m /\ v3 = .int .i64 (k : Int) /\ F.Row (rot f k m (m + 1)) wr) (fun v3 _ => (intOf v3).toNat)
   case atStart => exact ⟨m, hjb, Nat.le_refl _, rfl, HR1.out⟩
   case round =>
    obtain ⟨k, hik, hkm, rfl, R⟩ := hrel
    clear HR1
    rcases Nat.lt_or_ge i k with hlk | hgk
    ·obtain ⟨v, hv⟩ : ∃ v, k = v + 1 := ⟨k - 1, by omega⟩
     have hwv : IntKind.i64.wrap ((k : Int) - 1) = ((v : Nat) : Int) := by rw [IntWalk.i64_in _ (by omega)]; omega
     have hkv : v < k := by omega
     have hkn : ((k : Nat) : Int) < (F.n : Int) := by omega
     have hvn : ((v : Nat) : Int) < (F.n : Int) := by omega
     have hki2 : ((i : Nat) : Int) < (k : Int) := by omega
     obtain ⟨X, hX⟩ : ∃ X, rot f k m (m + 1) k = X := ⟨_, rfl⟩
     obtain ⟨Y, hY⟩ : ∃ Y, rot f k m (m + 1) v = Y := ⟨_, rfl⟩
     obtain ⟨a0, a1⟩ := R.two (j := k) (by omega)
     obtain ⟨b0, b1⟩ := R.two (j := v) (by omega)
     rw [hX] at a0 a1
     rw [hY] at b0 b1
     have HX := Lib.hid hX; have HY := Lib.hid hY
     have HS := Lib.hid (R.swap (i := k) (j := v) (by omega) (by omega)).drew
     have ia0 := R.ice (F.off + k * 2); have ia1 := R.ice (F.off + k * 2 + 1)
     have ib0 := R.ice (F.off + v * 2); have ib1 := R.ice (F.off + v * 2 + 1)
     clear R hX hY
     have HV := Lib.hid hv
     clear hv
     go_wp2_with fail
     go_region
     all_goals
      go_wp2
      go_roundw
      case rel =>
       refine ⟨v, by have := HV.out; omega, by omega, (by first | go_num | (congr 1; have := HV.out; omega)), ?_⟩
       have h9 := HS.out.congr (g := rot f v m (m + 1)) fun x _ => by
        have hvk : v = k - 1 := by have := HV.out; omega
        rw [hvk]
        exact (rot_down f _ hlk hkm (fun _ => rfl) x).symm
       rw [HX.out, HY.out] at h9
       exact h9
      case measure => have := HV.out; simp [intOf]; omega
    ·obtain rfl : i = k := by omega
     have hki2 : ¬ ((i : Nat) : Int) < (i : Int) := by omega
     go_wp2
     refine bodyPost_ret (results_none rfl _ _ _) rfl ⟨rfl, _, R, by rw [HMB.out]; exact HM.out⟩
end Go.Proofs.YtbnjejenejoibaaGreatDoor
