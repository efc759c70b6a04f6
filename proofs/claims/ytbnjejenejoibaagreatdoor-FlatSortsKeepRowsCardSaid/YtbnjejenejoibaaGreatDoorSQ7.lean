/- The walk of the stable sort: the merging in place, whole. The walk of the stable sort: the merging in place, whole, where the middle lies behind. -/
import Derived.Test.YtbnjejenejoibaaGreatDoorSQ5
-- merged: SQ6 SQ7
namespace Go.Proofs.YtbnjejenejoibaaGreatDoor
open Go.RowKit Limb Stab
set_option linter.unusedVariables false
set_option linter.unusedSimpArgs false
def SMid (a m b d s0 r0 : Nat) : Prop := (d < m /\ s0 + b = d + m /\ r0 = d) ∨ (m <= d /\ s0 = a /\ r0 = m)
theorem mid_ends {a m b d s0 r0 : Nat} (ham : a < m) (hmb : m < b) (hd : d = (a + b) / 2) (h : SMid a m b d s0 r0) : a <= s0 /\ s0 <= r0 /\ r0 <= m /\ r0 <= d /\ a < d /\ d < b /\ d + m <= s0 + b := by
 rcases h with ⟨h1, h2, h3⟩ | ⟨h1, h2, h3⟩ <;> omega
theorem mid_c1 {a m b d s0 r0 i e : Nat} (h : SMid a m b d s0 r0) (hi : i <= r0) (he : e + i = d + m) (h1 : i < m) (h2 : m < e) : i < r0 := by
 rcases h with ⟨h1, h2, h3⟩ | ⟨h1, h2, h3⟩ <;> omega
theorem mid_c2 {a m b d s0 r0 i e : Nat} (h : SMid a m b d s0 r0) (hi : s0 <= i) (he : e + i = d + m) (h1 : a < i) (h2 : e < b) : s0 < i := by
 rcases h with ⟨h1, h2, h3⟩ | ⟨h1, h2, h3⟩ <;> omega
theorem mid_before {r f : Nat -> Nat} {a m b d s0 r0 i e : Nat} (h1 : Srt r f a m) (h2 : Srt r f m b) (hc : Crs r f a m b) (ham : a < m) (hmb : m < b) (hd : d = (a + b) / 2) (h : SMid a m b d s0 r0)
  (hs : s0 <= i) (hi : i <= r0) (he : e + i = d + m) (P1 : ∀ c, s0 <= c -> c < i -> r (f (d + m - 1 - c)) <= r (f c)) (P2 : ∀ c, i <= c -> c < r0 -> r (f c) < r (f (d + m - 1 - c))) :
  ∀ x y, a <= x -> x < d -> d <= y -> y < b -> prec r (rot f i m e x) (rot f i m e y) := by
 obtain ⟨k1, k2, k3, k4, k5, k6, k7⟩ := mid_ends ham hmb hd h
 have hd2 : d = i + (e - m) := by omega
 have key := rot_before (s := i) (e := e) h1 h2 hc (by omega) (by omega) (by omega) (by omega)
  (fun q1 q2 => by have := P2 i (Nat.le_refl i) (mid_c1 h hi he q1 q2); rwa [show d + m - 1 - i = e - 1 by omega] at this)
  (fun q1 q2 => by have q3 := mid_c2 h hs he q1 q2; have := P1 (i - 1) (by omega) (by omega); rwa [show d + m - 1 - (i - 1) = e by omega] at this)
 rw [<- hd2] at key
 exact key
set_option maxHeartbeats 8000000 in
set_option maxRecDepth 100000 in
theorem merge_hi (F : Fam) (G : F.Good) (N cap : Nat) (IH : ∀ (a m b : Nat) (f : Nat → Nat) (w : World), F.Row f w → a < m → m < b → b ≤ F.n → b - a ≤ N → Srt F.r f a m → Srt F.r f m b → Crs F.r f a m b →
      Calls Tryz.prog 81 #[.slice (some ⟨F.blk, F.off, none⟩) F.n cap, .int .i64 (a : Int), .int .i64 (m : Int), .int .i64 (b : Int), (.func (.func 19) #[] #[.pointer (some ⟨F.kb, 0, none⟩)])] w fun e w' => e = .returned (.tuple #[]) /\ ∃ g, F.Row g w' /\ Mrg F.r f g a b)
  {f : Nat -> Nat} {w : World} (R : F.Row f w) (a m b d s0 r0 : Nat) (ham : a + 1 < m) (hmb : m + 1 < b) (hb : b <= F.n) (hN : b - a <= N + 1) (h1 : Srt F.r f a m) (h2 : Srt F.r f m b) (hc : Crs F.r f a m b) (hd : d = (a + b) / 2) (hM : SMid a m b d s0 r0) (hcs : d < m) :
  Calls Tryz.prog 81 #[.slice (some ⟨F.blk, F.off, none⟩) F.n cap, .int .i64 (a : Int), .int .i64 (m : Int), .int .i64 (b : Int), (.func (.func 19) #[] #[.pointer (some ⟨F.kb, 0, none⟩)])] w fun e w' => e = .returned (.tuple #[]) /\ ∃ g, F.Row g w' /\ Mrg F.r f g a b := by
 have few := G.few
 obtain ⟨k1, k2, k3, k4, k5, k6, k7⟩ := mid_ends (by omega) (by omega) hd hM
 have HBF := Lib.hid (fun (i e : Nat) => mid_before (i := i) (e := e) h1 h2 hc (by omega) (by omega) hd hM)
 have HR0 := Lib.hid R; have H1 := Lib.hid h1; have H2 := Lib.hid h2; have HC := Lib.hid hc; have HIH := Lib.hid IH
 clear R h1 h2 hc IH
 have hma : ((m : Int) - (a : Int) == 1) = false := by rw [beq_eq_false_iff_ne]; omega
 have hbm : ((b : Int) - (m : Int) == 1) = false := by rw [beq_eq_false_iff_ne]; omega
 have HD := Lib.hid (show ((a : Int) + (b : Int)) / 2 = ((d : Nat) : Int) by omega)
 obtain ⟨q1, q2, q3⟩ : d < m /\ s0 + b = d + m /\ r0 = d := by rcases hM with h | h; exact h; exact absurd hcs (by omega)
 have hgt : ((a : Int) + (b : Int)) / 2 < (m : Int) := by omega
 have HQ := Lib.hid (And.intro q2 q3)
 clear hd q2 q3 q1 hM
 go_enter Tryz.func81, Tryz.ntmps81
 go_wp2
 rw [HD.out]
 go_loopw [20, 21] (fun v1 v2 wr => ∃ (i j : Nat), s0 <= i /\ i <= j /\ j <= r0 /\ v1 = .int .i64 (i : Int) /\ v2 = .int .i64 (j : Int) /\ F.Row f wr /\ Hid (∀ c, s0 <= c -> c < i -> F.r (f (d + m - 1 - c)) <= F.r (f c)) /\ Hid (∀ c, j <= c -> c < r0 -> F.r (f c) < F.r (f (d + m - 1 - c)))) (fun v1 v2 _ => (intOf v2).toNat - (intOf v1).toNat)
 case atStart =>
  have q := HQ.out
  exact ⟨s0, r0, Nat.le_refl _, k2, Nat.le_refl _, (by congr 1; omega), (by congr 1; omega), HR0.out, fun c h1 h2 => by omega, fun c h1 h2 => by omega⟩
 case round =>
  obtain ⟨i, j, hsi, hij, hjr, rfl, rfl, R, P1, P2⟩ := hrel
  clear HR0
  rcases Nat.lt_or_ge i j with hlt | hge
  ·obtain ⟨u, hu⟩ : ∃ u, u = (i + j) / 2 := ⟨_, rfl⟩
   have hui : i <= u := by omega
   have huj : u < j := by omega
   have HU := Lib.hid hu
   clear hu
   obtain ⟨v, hv⟩ : ∃ v, v = d + m - 1 - u := ⟨_, rfl⟩
   have hvn' : v < F.n := by omega
   have hwv : IntKind.i64.wrap ((d : Int) + (m : Int) - 1 - (u : Int)) = ((v : Nat) : Int) := by rw [IntWalk.i64_in _ (by omega)]; omega
   have hun : ((u : Nat) : Int) < (F.n : Int) := by omega
   have hvn : ((v : Nat) : Int) < (F.n : Int) := by omega
   have HV := Lib.hid hv
   clear hv
   obtain ⟨X, hX⟩ : ∃ X, f v = X := ⟨_, rfl⟩
   obtain ⟨Y, hY⟩ : ∃ Y, f u = Y := ⟨_, rfl⟩
   obtain ⟨a0, a1⟩ := R.two (j := v) (by omega)
   obtain ⟨b0, b1⟩ := R.two (j := u) (by omega)
   rw [hX] at a0 a1
   rw [hY] at b0 b1
   have hXn : X < F.n := by obtain ⟨g, hg⟩ := R.bij; rw [<- hX]; exact (hg v (by omega)).1
   have hYn : Y < F.n := by obtain ⟨g, hg⟩ := R.bij; rw [<- hY]; exact (hg u (by omega)).1
   have HX := Lib.hid hX; have HY := Lib.hid hY
   have HR2 := Lib.hid R
   clear hX hY R
   by_cases hcmp : F.r Y < F.r X
   ·as_aux_lemma =>
    have hsg : F.cf X Y < 0 := (G.cmp X Y hXn hYn).2 hcmp
    obtain ⟨σ, hσ⟩ : ∃ σ, F.cf X Y = σ := ⟨_, rfl⟩
    rw [hσ] at hsg
    have hsb : (!decide (σ < 0)) = false := by rw [decide_eq_true hsg]; rfl
    have HSG := Lib.hid hσ; clear hσ
    go_wp2_with fail
    rw [show (((i : Nat) : Int) + ((j : Nat) : Int)) / 2 = ((u : Nat) : Int) by have := HU.out; omega]
    go_region_held3 (fun w' => w'.cell? ⟨F.blk, F.off + v * 2, none⟩ = some (.slice (F.A X) (F.m X) (F.c X)) /\ w'.cell? ⟨F.blk, F.off + v * 2 + 1, none⟩ = some (.string (F.V X)) /\ w'.cell? ⟨F.blk, F.off + u * 2, none⟩ = some (.slice (F.A Y) (F.m Y) (F.c Y)) /\ w'.cell? ⟨F.blk, F.off + u * 2 + 1, none⟩ = some (.string (F.V Y)))
     (first | (with_reducible exact ⟨c0, c1, d0, d1⟩) | (exact ⟨a0, a1, b0, b1⟩))
     (first
      | (go_at_call 19; refine (test_c F G HR2.out.drew hXn hYn).mono ?_; rintro e w2 ⟨rfl, hb2⟩; rw [HSG.out]; have R3 := HR2.out.drew.below hb2; obtain ⟨c0, c1⟩ := R3.two (j := v) (by omega); obtain ⟨d0, d1⟩ := R3.two (j := u) (by omega); rw [HX.out] at c0 c1; rw [HY.out] at d0 d1))
    have CMP := Lib.hid hcmp
    have HR3 := Lib.hid R3
    clear a0 a1 b0 b1 c0 c1 d0 d1 R3 hb2 HR2 hcmp hXn hYn
    go_wp2
    go_roundw
    case rel =>
     refine ⟨i, u, hsi, hui, by omega, rfl, rfl, HR3.out, P1, fun c h1 h3 => ?_⟩
     have k := H1.out.le (x := u) (y := c) (by omega) h1 (by omega)
     have k2 := H2.out.le (x := d + m - 1 - c) (y := d + m - 1 - u) (by omega) (by omega) (by omega)
     rw [HY.out] at k
     rw [<- HV.out, HX.out] at k2
     have := CMP.out
     omega
    case measure => simp [intOf]; omega
   ·as_aux_lemma =>
    have hsg : ¬ F.cf X Y < 0 := fun h => hcmp ((G.cmp X Y hXn hYn).1 h)
    obtain ⟨σ, hσ⟩ : ∃ σ, F.cf X Y = σ := ⟨_, rfl⟩
    rw [hσ] at hsg
    have hsb : (!decide (σ < 0)) = true := by rw [decide_eq_false hsg]; rfl
    have HSG := Lib.hid hσ; clear hσ
    go_wp2_with fail
    rw [show (((i : Nat) : Int) + ((j : Nat) : Int)) / 2 = ((u : Nat) : Int) by have := HU.out; omega]
    go_region_held3 (fun w' => w'.cell? ⟨F.blk, F.off + v * 2, none⟩ = some (.slice (F.A X) (F.m X) (F.c X)) /\ w'.cell? ⟨F.blk, F.off + v * 2 + 1, none⟩ = some (.string (F.V X)) /\ w'.cell? ⟨F.blk, F.off + u * 2, none⟩ = some (.slice (F.A Y) (F.m Y) (F.c Y)) /\ w'.cell? ⟨F.blk, F.off + u * 2 + 1, none⟩ = some (.string (F.V Y)))
     (first | (with_reducible exact ⟨c0, c1, d0, d1⟩) | (exact ⟨a0, a1, b0, b1⟩))
     (first
      | (go_at_call 19; refine (test_c F G HR2.out.drew hXn hYn).mono ?_; rintro e w2 ⟨rfl, hb2⟩; rw [HSG.out]; have R3 := HR2.out.drew.below hb2; obtain ⟨c0, c1⟩ := R3.two (j := v) (by omega); obtain ⟨d0, d1⟩ := R3.two (j := u) (by omega); rw [HX.out] at c0 c1; rw [HY.out] at d0 d1))
    have CMP := Lib.hid hcmp
    have HR3 := Lib.hid R3
    clear a0 a1 b0 b1 c0 c1 d0 d1 R3 hb2 HR2 hcmp hXn hYn
    go_wp2
    go_roundw
    case rel =>
     refine ⟨u + 1, j, by omega, by omega, hjr, by go_num, rfl, HR3.out, fun c h1 h3 => ?_, P2⟩
     have k := H1.out.le (x := c) (y := u) (by omega) (by omega) (by omega)
     have k2 := H2.out.le (x := d + m - 1 - u) (y := d + m - 1 - c) (by omega) (by omega) (by omega)
     rw [HY.out] at k
     rw [<- HV.out, HX.out] at k2
     have := CMP.out
     omega
    case measure => simp [intOf]; omega
  ·as_aux_lemma =>
   obtain rfl : i = j := by omega
   have hnl : ¬ (i : Int) < (i : Int) := by omega
   obtain ⟨e, he⟩ : ∃ e, e + i = d + m := ⟨d + m - i, by omega⟩
   have hme : m <= e := by omega
   have heb : e <= b := by omega
   have him : i <= m := by omega
   have hai : a <= i := by omega
   have hid : i <= d := by omega
   have hde : d <= e := by omega
   have HB := Lib.hid (HBF.out i e hsi hjr he P1.out P2.out)
   have HE := Lib.hid (show (d : Int) + (m : Int) - (i : Int) = ((e : Nat) : Int) by omega)
   have hd2 : d = i + (e - m) := by omega
   have S1 := Lib.hid (rot_srt1 H1.out hai him hme)
   have S2 := Lib.hid (hd2 ▸ rot_srt2 (s := i) H2.out him hme heb : Srt F.r (rot f i m e) i d)
   have S3 := Lib.hid (hd2 ▸ rot_srt3 (s := i) H1.out hai him hme : Srt F.r (rot f i m e) d e)
   have S4 := Lib.hid (rot_srt4 (s := i) H2.out him hme)
   have C1 := Lib.hid (hd2 ▸ rot_crs1 (s := i) HC.out hai him hme heb : Crs F.r (rot f i m e) a i d)
   have C2 := Lib.hid (hd2 ▸ rot_crs2 (s := i) HC.out hai him hme : Crs F.r (rot f i m e) d e b)
   have HD2 := Lib.hid hd2
   have HR1 := Lib.hid R
   clear R hd2 P1 P2 H1 H2 HC HBF
   obtain ⟨B1, hB1⟩ : ∃ B, decide (i < m /\ m < e) = B := ⟨_, rfl⟩
   have HB1 := Lib.hid hB1
   clear hB1
   go_upto_region 39 with fail
   rw [HE.out]
   go_cut [185] (fun cv wx => cv = .bool B1 /\ F.Row f wx)
   case first => as_aux_lemma =>
    by_cases h1 : i < m
    ·by_cases h2 : m < e
     ·go_wp2_with fail
      go_meet
      exact ⟨congrArg Value.bool (by rw [<- HB1.out]; exact (decide_eq_true ⟨h1, h2⟩).symm), HR1.out⟩
     ·go_wp2_with fail
      go_meet
      exact ⟨congrArg Value.bool (by rw [<- HB1.out]; exact (decide_eq_false (fun h => h2 h.2)).symm), HR1.out⟩
    ·go_wp2_with fail
     go_meet
     exact ⟨congrArg Value.bool (by rw [<- HB1.out]; exact (decide_eq_false (fun h => h1 h.1)).symm), HR1.out⟩
   case rest => as_aux_lemma =>
    clear HR1
    obtain ⟨rfl, R1⟩ := hcut
    have HR1 := Lib.hid R1
    clear R1
    go_upto_if 185 with fail
    go_cut [] (fun wx => F.Row (rot f i m e) wx)
    case first => as_aux_lemma =>
     cases B1 with
     | true =>
      obtain ⟨hr1, hr2⟩ := of_decide_eq_true HB1.out
      go_wp2_with fail
      refine (rotate_c F G HR1.out i m e cap _ hr1 hr2 (by omega)).mono ?_
      rintro z w2 ⟨rfl, R2⟩
      go_wp2_with fail
      go_meet
      exact R2
     | false =>
      have hno := of_decide_eq_false HB1.out
      have hz : (rot f i m e) = f := by
       funext x
       rcases Nat.lt_or_ge i m with h | h
       ·have : m = e := by omega
        rw [this]; exact rot_none' f i e x
       ·have : i = m := by omega
        rw [this]; exact rot_none f m e x
      have HZ := Lib.hid hz
      clear hz hno
      go_wp2_with fail
      go_meet
      rw [HZ.out]; exact HR1.out
    case rest => as_aux_lemma =>
     clear HR1
     have R2 := Lib.hid hcut
     clear hcut
     obtain ⟨B2, hB2⟩ : ∃ B, decide (a < i /\ i < d) = B := ⟨_, rfl⟩
     have HB2 := Lib.hid hB2
     clear hB2 HB1
     go_upto_region 41 with fail
     go_cut [199] (fun cv wx => cv = .bool B2 /\ F.Row (rot f i m e) wx)
     case first => as_aux_lemma =>
      by_cases h1 : a < i
      ·by_cases h2 : i < d
       ·go_wp2_with fail
        go_meet
        exact ⟨congrArg Value.bool (by rw [<- HB2.out]; exact (decide_eq_true ⟨h1, h2⟩).symm), R2.out⟩
       ·go_wp2_with fail
        go_meet
        exact ⟨congrArg Value.bool (by rw [<- HB2.out]; exact (decide_eq_false (fun h => h2 h.2)).symm), R2.out⟩
      ·go_wp2_with fail
       go_meet
       exact ⟨congrArg Value.bool (by rw [<- HB2.out]; exact (decide_eq_false (fun h => h1 h.1)).symm), R2.out⟩
     case rest => as_aux_lemma =>
      clear R2
      obtain ⟨rfl, R2a⟩ := hcut
      have R2 := Lib.hid R2a
      clear R2a
      go_upto_if 199 with fail
      go_cut [] (fun wx => ∃ h, F.Row h wx /\ Hid (Mrg F.r (rot f i m e) h a d))
      case first => as_aux_lemma =>
       cases B2 with
       | true =>
        obtain ⟨hr1, hr2⟩ := of_decide_eq_true HB2.out
        go_wp2_with fail
        refine (HIH.out a i d _ _ R2.out hr1 hr2 (by omega) (by omega) S1.out S2.out C1.out).mono ?_
        rintro z w3 ⟨rfl, h, R3, M3⟩
        go_wp2_with fail
        go_meet
        exact ⟨h, R3, M3⟩
       | false =>
        have hno := of_decide_eq_false HB2.out
        have hm2 : Mrg F.r (rot f i m e) (rot f i m e) a d := by
         rcases Nat.lt_or_ge a i with h | h
         ·have hx : i = d := by omega
          exact Mrg.same (hx ▸ S1.out)
         ·have hx : i = a := by omega
          exact Mrg.same (hx ▸ S2.out)
        have HM2 := Lib.hid hm2
        clear hm2 hno
        go_wp2_with fail
        go_meet
        exact ⟨_, R2.out, HM2.out⟩
      case rest => as_aux_lemma =>
       obtain ⟨h, R3, M3⟩ := hcut
       have HR3 := Lib.hid R3
       clear R2 R3
       have hof : ∀ x, d <= x -> x < b -> h x = rot f i m e x := fun x h1 h2 => M3.out.1 x (by omega)
       have T3 := Lib.hid (S3.out.of_eq (g := h) fun x h1 h2 => hof x h1 (by omega))
       have T4 := Lib.hid (S4.out.of_eq (g := h) fun x h1 h2 => hof x (by omega) h2)
       have D2 := Lib.hid (C2.out.of_eq (g := h) heb hde hof)
       have HFIN := Lib.hid (fun (k : Nat -> Nat) (mk : Mrg F.r h k d b) => Mrg.both (f := f) hai him hme heb (fun _ => rfl) (by omega) (by omega) M3.out mk HB.out)
       clear hof M3 HB S1 S2 S3 S4 C1 C2
       by_cases h1 : d < e
       ·by_cases h2 : e < b
        ·go_wp2_with fail
         refine (HIH.out d e b _ _ HR3.out h1 h2 (by omega) (by omega) T3.out T4.out D2.out).mono ?_
         rintro z w4 ⟨rfl, k, R4, M4⟩
         go_wp2
         go_end0
         exact ⟨rfl, k, R4, HFIN.out k M4⟩
        ·go_wp2
         go_end0
         have hx : e = b := by omega
         exact ⟨rfl, h, HR3.out, HFIN.out h (Mrg.same (hx ▸ T3.out))⟩
       ·go_wp2
        go_end0
        have hx : d = e := by omega
        exact ⟨rfl, h, HR3.out, HFIN.out h (Mrg.same (hx ▸ T4.out))⟩
set_option maxHeartbeats 8000000 in
set_option maxRecDepth 100000 in
theorem merge_lo (F : Fam) (G : F.Good) (N cap : Nat) (IH : ∀ (a m b : Nat) (f : Nat → Nat) (w : World), F.Row f w → a < m → m < b → b ≤ F.n → b - a ≤ N → Srt F.r f a m → Srt F.r f m b → Crs F.r f a m b →
      Calls Tryz.prog 81 #[.slice (some ⟨F.blk, F.off, none⟩) F.n cap, .int .i64 (a : Int), .int .i64 (m : Int), .int .i64 (b : Int), (.func (.func 19) #[] #[.pointer (some ⟨F.kb, 0, none⟩)])] w fun e w' => e = .returned (.tuple #[]) /\ ∃ g, F.Row g w' /\ Mrg F.r f g a b)
  {f : Nat -> Nat} {w : World} (R : F.Row f w) (a m b d s0 r0 : Nat) (ham : a + 1 < m) (hmb : m + 1 < b) (hb : b <= F.n) (hN : b - a <= N + 1) (h1 : Srt F.r f a m) (h2 : Srt F.r f m b) (hc : Crs F.r f a m b) (hd : d = (a + b) / 2) (hM : SMid a m b d s0 r0) (hcs : ¬ d < m) :
  Calls Tryz.prog 81 #[.slice (some ⟨F.blk, F.off, none⟩) F.n cap, .int .i64 (a : Int), .int .i64 (m : Int), .int .i64 (b : Int), (.func (.func 19) #[] #[.pointer (some ⟨F.kb, 0, none⟩)])] w fun e w' => e = .returned (.tuple #[]) /\ ∃ g, F.Row g w' /\ Mrg F.r f g a b := by
 have few := G.few
 obtain ⟨k1, k2, k3, k4, k5, k6, k7⟩ := mid_ends (by omega) (by omega) hd hM
 have HBF := Lib.hid (fun (i e : Nat) => mid_before (i := i) (e := e) h1 h2 hc (by omega) (by omega) hd hM)
 have HR0 := Lib.hid R; have H1 := Lib.hid h1; have H2 := Lib.hid h2; have HC := Lib.hid hc; have HIH := Lib.hid IH
 clear R h1 h2 hc IH
 have hma : ((m : Int) - (a : Int) == 1) = false := by rw [beq_eq_false_iff_ne]; omega
 have hbm : ((b : Int) - (m : Int) == 1) = false := by rw [beq_eq_false_iff_ne]; omega
 have HD := Lib.hid (show ((a : Int) + (b : Int)) / 2 = ((d : Nat) : Int) by omega)
 obtain ⟨q1, q2, q3⟩ : m <= d /\ s0 = a /\ r0 = m := by rcases hM with h | h; exact absurd hcs (by omega); exact h
 have hgt : ¬ ((a : Int) + (b : Int)) / 2 < (m : Int) := by omega
 have HQ := Lib.hid (And.intro q2 q3)
 clear hd q2 q3 q1 hM
 go_enter Tryz.func81, Tryz.ntmps81
 go_wp2
 rw [HD.out]
 go_loopw [20, 21] (fun v1 v2 wr => ∃ (i j : Nat), s0 <= i /\ i <= j /\ j <= r0 /\ v1 = .int .i64 (i : Int) /\ v2 = .int .i64 (j : Int) /\ F.Row f wr /\ Hid (∀ c, s0 <= c -> c < i -> F.r (f (d + m - 1 - c)) <= F.r (f c)) /\ Hid (∀ c, j <= c -> c < r0 -> F.r (f c) < F.r (f (d + m - 1 - c)))) (fun v1 v2 _ => (intOf v2).toNat - (intOf v1).toNat)
 case atStart =>
  have q := HQ.out
  exact ⟨s0, r0, Nat.le_refl _, k2, Nat.le_refl _, (by congr 1; omega), (by congr 1; omega), HR0.out, fun c h1 h2 => by omega, fun c h1 h2 => by omega⟩
 case round =>
  obtain ⟨i, j, hsi, hij, hjr, rfl, rfl, R, P1, P2⟩ := hrel
  clear HR0
  rcases Nat.lt_or_ge i j with hlt | hge
  ·obtain ⟨u, hu⟩ : ∃ u, u = (i + j) / 2 := ⟨_, rfl⟩
   have hui : i <= u := by omega
   have huj : u < j := by omega
   have HU := Lib.hid hu
   clear hu
   obtain ⟨v, hv⟩ : ∃ v, v = d + m - 1 - u := ⟨_, rfl⟩
   have hvn' : v < F.n := by omega
   have hwv : IntKind.i64.wrap ((d : Int) + (m : Int) - 1 - (u : Int)) = ((v : Nat) : Int) := by rw [IntWalk.i64_in _ (by omega)]; omega
   have hun : ((u : Nat) : Int) < (F.n : Int) := by omega
   have hvn : ((v : Nat) : Int) < (F.n : Int) := by omega
   have HV := Lib.hid hv
   clear hv
   obtain ⟨X, hX⟩ : ∃ X, f v = X := ⟨_, rfl⟩
   obtain ⟨Y, hY⟩ : ∃ Y, f u = Y := ⟨_, rfl⟩
   obtain ⟨a0, a1⟩ := R.two (j := v) (by omega)
   obtain ⟨b0, b1⟩ := R.two (j := u) (by omega)
   rw [hX] at a0 a1
   rw [hY] at b0 b1
   have hXn : X < F.n := by obtain ⟨g, hg⟩ := R.bij; rw [<- hX]; exact (hg v (by omega)).1
   have hYn : Y < F.n := by obtain ⟨g, hg⟩ := R.bij; rw [<- hY]; exact (hg u (by omega)).1
   have HX := Lib.hid hX; have HY := Lib.hid hY
   have HR2 := Lib.hid R
   clear hX hY R
   by_cases hcmp : F.r Y < F.r X
   ·as_aux_lemma =>
    have hsg : F.cf X Y < 0 := (G.cmp X Y hXn hYn).2 hcmp
    obtain ⟨σ, hσ⟩ : ∃ σ, F.cf X Y = σ := ⟨_, rfl⟩
    rw [hσ] at hsg
    have hsb : (!decide (σ < 0)) = false := by rw [decide_eq_true hsg]; rfl
    have HSG := Lib.hid hσ; clear hσ
    go_wp2_with fail
    rw [show (((i : Nat) : Int) + ((j : Nat) : Int)) / 2 = ((u : Nat) : Int) by have := HU.out; omega]
    go_region_held3 (fun w' => w'.cell? ⟨F.blk, F.off + v * 2, none⟩ = some (.slice (F.A X) (F.m X) (F.c X)) /\ w'.cell? ⟨F.blk, F.off + v * 2 + 1, none⟩ = some (.string (F.V X)) /\ w'.cell? ⟨F.blk, F.off + u * 2, none⟩ = some (.slice (F.A Y) (F.m Y) (F.c Y)) /\ w'.cell? ⟨F.blk, F.off + u * 2 + 1, none⟩ = some (.string (F.V Y)))
     (first | (with_reducible exact ⟨c0, c1, d0, d1⟩) | (exact ⟨a0, a1, b0, b1⟩))
     (first
      | (go_at_call 19; refine (test_c F G HR2.out.drew hXn hYn).mono ?_; rintro e w2 ⟨rfl, hb2⟩; rw [HSG.out]; have R3 := HR2.out.drew.below hb2; obtain ⟨c0, c1⟩ := R3.two (j := v) (by omega); obtain ⟨d0, d1⟩ := R3.two (j := u) (by omega); rw [HX.out] at c0 c1; rw [HY.out] at d0 d1))
    have CMP := Lib.hid hcmp
    have HR3 := Lib.hid R3
    clear a0 a1 b0 b1 c0 c1 d0 d1 R3 hb2 HR2 hcmp hXn hYn
    go_wp2
    go_roundw
    case rel =>
     refine ⟨i, u, hsi, hui, by omega, rfl, rfl, HR3.out, P1, fun c h1 h3 => ?_⟩
     have k := H1.out.le (x := u) (y := c) (by omega) h1 (by omega)
     have k2 := H2.out.le (x := d + m - 1 - c) (y := d + m - 1 - u) (by omega) (by omega) (by omega)
     rw [HY.out] at k
     rw [<- HV.out, HX.out] at k2
     have := CMP.out
     omega
    case measure => simp [intOf]; omega
   ·as_aux_lemma =>
    have hsg : ¬ F.cf X Y < 0 := fun h => hcmp ((G.cmp X Y hXn hYn).1 h)
    obtain ⟨σ, hσ⟩ : ∃ σ, F.cf X Y = σ := ⟨_, rfl⟩
    rw [hσ] at hsg
    have hsb : (!decide (σ < 0)) = true := by rw [decide_eq_false hsg]; rfl
    have HSG := Lib.hid hσ; clear hσ
    go_wp2_with fail
    rw [show (((i : Nat) : Int) + ((j : Nat) : Int)) / 2 = ((u : Nat) : Int) by have := HU.out; omega]
    go_region_held3 (fun w' => w'.cell? ⟨F.blk, F.off + v * 2, none⟩ = some (.slice (F.A X) (F.m X) (F.c X)) /\ w'.cell? ⟨F.blk, F.off + v * 2 + 1, none⟩ = some (.string (F.V X)) /\ w'.cell? ⟨F.blk, F.off + u * 2, none⟩ = some (.slice (F.A Y) (F.m Y) (F.c Y)) /\ w'.cell? ⟨F.blk, F.off + u * 2 + 1, none⟩ = some (.string (F.V Y)))
     (first | (with_reducible exact ⟨c0, c1, d0, d1⟩) | (exact ⟨a0, a1, b0, b1⟩))
     (first
      | (go_at_call 19; refine (test_c F G HR2.out.drew hXn hYn).mono ?_; rintro e w2 ⟨rfl, hb2⟩; rw [HSG.out]; have R3 := HR2.out.drew.below hb2; obtain ⟨c0, c1⟩ := R3.two (j := v) (by omega); obtain ⟨d0, d1⟩ := R3.two (j := u) (by omega); rw [HX.out] at c0 c1; rw [HY.out] at d0 d1))
    have CMP := Lib.hid hcmp
    have HR3 := Lib.hid R3
    clear a0 a1 b0 b1 c0 c1 d0 d1 R3 hb2 HR2 hcmp hXn hYn
    go_wp2
    go_roundw
    case rel =>
     refine ⟨u + 1, j, by omega, by omega, hjr, by go_num, rfl, HR3.out, fun c h1 h3 => ?_, P2⟩
     have k := H1.out.le (x := c) (y := u) (by omega) (by omega) (by omega)
     have k2 := H2.out.le (x := d + m - 1 - u) (y := d + m - 1 - c) (by omega) (by omega) (by omega)
     rw [HY.out] at k
     rw [<- HV.out, HX.out] at k2
     have := CMP.out
     omega
    case measure => simp [intOf]; omega
  ·as_aux_lemma =>
   obtain rfl : i = j := by omega
   have hnl : ¬ (i : Int) < (i : Int) := by omega
   obtain ⟨e, he⟩ : ∃ e, e + i = d + m := ⟨d + m - i, by omega⟩
   have hme : m <= e := by omega
   have heb : e <= b := by omega
   have him : i <= m := by omega
   have hai : a <= i := by omega
   have hid : i <= d := by omega
   have hde : d <= e := by omega
   have HB := Lib.hid (HBF.out i e hsi hjr he P1.out P2.out)
   have HE := Lib.hid (show (d : Int) + (m : Int) - (i : Int) = ((e : Nat) : Int) by omega)
   have hd2 : d = i + (e - m) := by omega
   have S1 := Lib.hid (rot_srt1 H1.out hai him hme)
   have S2 := Lib.hid (hd2 ▸ rot_srt2 (s := i) H2.out him hme heb : Srt F.r (rot f i m e) i d)
   have S3 := Lib.hid (hd2 ▸ rot_srt3 (s := i) H1.out hai him hme : Srt F.r (rot f i m e) d e)
   have S4 := Lib.hid (rot_srt4 (s := i) H2.out him hme)
   have C1 := Lib.hid (hd2 ▸ rot_crs1 (s := i) HC.out hai him hme heb : Crs F.r (rot f i m e) a i d)
   have C2 := Lib.hid (hd2 ▸ rot_crs2 (s := i) HC.out hai him hme : Crs F.r (rot f i m e) d e b)
   have HD2 := Lib.hid hd2
   have HR1 := Lib.hid R
   clear R hd2 P1 P2 H1 H2 HC HBF
   obtain ⟨B1, hB1⟩ : ∃ B, decide (i < m /\ m < e) = B := ⟨_, rfl⟩
   have HB1 := Lib.hid hB1
   clear hB1
   go_upto_region 39 with fail
   rw [HE.out]
   go_cut [185] (fun cv wx => cv = .bool B1 /\ F.Row f wx)
   case first => as_aux_lemma =>
    by_cases h1 : i < m
    ·by_cases h2 : m < e
     ·go_wp2_with fail
      go_meet
      exact ⟨congrArg Value.bool (by rw [<- HB1.out]; exact (decide_eq_true ⟨h1, h2⟩).symm), HR1.out⟩
     ·go_wp2_with fail
      go_meet
      exact ⟨congrArg Value.bool (by rw [<- HB1.out]; exact (decide_eq_false (fun h => h2 h.2)).symm), HR1.out⟩
    ·go_wp2_with fail
     go_meet
     exact ⟨congrArg Value.bool (by rw [<- HB1.out]; exact (decide_eq_false (fun h => h1 h.1)).symm), HR1.out⟩
   case rest => as_aux_lemma =>
    clear HR1
    obtain ⟨rfl, R1⟩ := hcut
    have HR1 := Lib.hid R1
    clear R1
    go_upto_if 185 with fail
    go_cut [] (fun wx => F.Row (rot f i m e) wx)
    case first => as_aux_lemma =>
     cases B1 with
     | true =>
      obtain ⟨hr1, hr2⟩ := of_decide_eq_true HB1.out
      go_wp2_with fail
      refine (rotate_c F G HR1.out i m e cap _ hr1 hr2 (by omega)).mono ?_
      rintro z w2 ⟨rfl, R2⟩
      go_wp2_with fail
      go_meet
      exact R2
     | false =>
      have hno := of_decide_eq_false HB1.out
      have hz : (rot f i m e) = f := by
       funext x
       rcases Nat.lt_or_ge i m with h | h
       ·have : m = e := by omega
        rw [this]; exact rot_none' f i e x
       ·have : i = m := by omega
        rw [this]; exact rot_none f m e x
      have HZ := Lib.hid hz
      clear hz hno
      go_wp2_with fail
      go_meet
      rw [HZ.out]; exact HR1.out
    case rest => as_aux_lemma =>
     clear HR1
     have R2 := Lib.hid hcut
     clear hcut
     obtain ⟨B2, hB2⟩ : ∃ B, decide (a < i /\ i < d) = B := ⟨_, rfl⟩
     have HB2 := Lib.hid hB2
     clear hB2 HB1
     go_upto_region 41 with fail
     go_cut [199] (fun cv wx => cv = .bool B2 /\ F.Row (rot f i m e) wx)
     case first => as_aux_lemma =>
      by_cases h1 : a < i
      ·by_cases h2 : i < d
       ·go_wp2_with fail
        go_meet
        exact ⟨congrArg Value.bool (by rw [<- HB2.out]; exact (decide_eq_true ⟨h1, h2⟩).symm), R2.out⟩
       ·go_wp2_with fail
        go_meet
        exact ⟨congrArg Value.bool (by rw [<- HB2.out]; exact (decide_eq_false (fun h => h2 h.2)).symm), R2.out⟩
      ·go_wp2_with fail
       go_meet
       exact ⟨congrArg Value.bool (by rw [<- HB2.out]; exact (decide_eq_false (fun h => h1 h.1)).symm), R2.out⟩
     case rest => as_aux_lemma =>
      clear R2
      obtain ⟨rfl, R2a⟩ := hcut
      have R2 := Lib.hid R2a
      clear R2a
      go_upto_if 199 with fail
      go_cut [] (fun wx => ∃ h, F.Row h wx /\ Hid (Mrg F.r (rot f i m e) h a d))
      case first => as_aux_lemma =>
       cases B2 with
       | true =>
        obtain ⟨hr1, hr2⟩ := of_decide_eq_true HB2.out
        go_wp2_with fail
        refine (HIH.out a i d _ _ R2.out hr1 hr2 (by omega) (by omega) S1.out S2.out C1.out).mono ?_
        rintro z w3 ⟨rfl, h, R3, M3⟩
        go_wp2_with fail
        go_meet
        exact ⟨h, R3, M3⟩
       | false =>
        have hno := of_decide_eq_false HB2.out
        have hm2 : Mrg F.r (rot f i m e) (rot f i m e) a d := by
         rcases Nat.lt_or_ge a i with h | h
         ·have hx : i = d := by omega
          exact Mrg.same (hx ▸ S1.out)
         ·have hx : i = a := by omega
          exact Mrg.same (hx ▸ S2.out)
        have HM2 := Lib.hid hm2
        clear hm2 hno
        go_wp2_with fail
        go_meet
        exact ⟨_, R2.out, HM2.out⟩
      case rest => as_aux_lemma =>
       obtain ⟨h, R3, M3⟩ := hcut
       have HR3 := Lib.hid R3
       clear R2 R3
       have hof : ∀ x, d <= x -> x < b -> h x = rot f i m e x := fun x h1 h2 => M3.out.1 x (by omega)
       have T3 := Lib.hid (S3.out.of_eq (g := h) fun x h1 h2 => hof x h1 (by omega))
       have T4 := Lib.hid (S4.out.of_eq (g := h) fun x h1 h2 => hof x (by omega) h2)
       have D2 := Lib.hid (C2.out.of_eq (g := h) heb hde hof)
       have HFIN := Lib.hid (fun (k : Nat -> Nat) (mk : Mrg F.r h k d b) => Mrg.both (f := f) hai him hme heb (fun _ => rfl) (by omega) (by omega) M3.out mk HB.out)
       clear hof M3 HB S1 S2 S3 S4 C1 C2
       by_cases h1 : d < e
       ·by_cases h2 : e < b
        ·go_wp2_with fail
         refine (HIH.out d e b _ _ HR3.out h1 h2 (by omega) (by omega) T3.out T4.out D2.out).mono ?_
         rintro z w4 ⟨rfl, k, R4, M4⟩
         go_wp2
         go_end0
         exact ⟨rfl, k, R4, HFIN.out k M4⟩
        ·go_wp2
         go_end0
         have hx : e = b := by omega
         exact ⟨rfl, h, HR3.out, HFIN.out h (Mrg.same (hx ▸ T3.out))⟩
       ·go_wp2
        go_end0
        have hx : d = e := by omega
        exact ⟨rfl, h, HR3.out, HFIN.out h (Mrg.same (hx ▸ T4.out))⟩
end Go.Proofs.YtbnjejenejoibaaGreatDoor
