
/- The walk of the stable sort: the insertion sort of a block. -/
import Derived.Test.YtegabimiegdcjaaS3
import Derived.Deep.RegionHeld3
namespace Go.Proofs.Ytegabimiegdcjaa
open Go.RowKit Limb Stab
set_option linter.unusedVariables false
set_option linter.unusedSimpArgs false

/-- What the insertion sort has come to when the places below i are in order. -/
def Ins (r f h : Nat → Nat) (a i : Nat) : Prop := (∀ x, ¬ (a ≤ x ∧ x < i) → h x = f x) ∧ (∀ x, a ≤ x → x < i → a ≤ h x ∧ h x < i) ∧ Srt r h a i
theorem ins_exit {r f h : Nat → Nat} {a i j : Nat} (hI : Ins r f h a i) (hfi : f i = i) (hai : a ≤ i) (haj : a ≤ j) (hji : j ≤ i) (hp : ∀ y, j ≤ y → y < i → r (h y) < r (h i)) (he : j = a ∨ r (h i) ≤ r (h (j - 1))) :
    Ins r f (rot h j i (i + 1)) a (i + 1) := by
  obtain ⟨h1, h2, h3⟩ := hI
  have hii : h i = i := by rw [h1 i (by omega)]; exact hfi
  refine ⟨fun x hx => ?_, fun x hx hxi => ?_, fun x y hx hxy hy => ?_⟩
  · rw [rot_out hji (by omega) (by omega), h1 x (by omega)]
  · obtain ⟨y, k1, k2, k3⟩ := rot_in (f := h) haj hji (Nat.le_succ i) (Nat.le_refl (i + 1)) x hx hxi
    rw [k3]
    rcases Nat.lt_or_ge y i with k4 | k4
    · have := h2 y k1 k4; omega
    · have : y = i := by omega
      subst this; rw [hii]; omega
  · rcases Nat.lt_trichotomy y j with hyj | hyj | hyj
    · rw [rot_out hji (by omega) (by omega), rot_out hji (by omega) (by omega)]
      exact h3 x y hx hxy (by omega)
    · subst hyj
      rw [rot_out hji (by omega) (by omega), rot_l (by omega), show y + (i - y) = i by omega]
      have k1 : r (h i) ≤ r (h (y - 1)) := by rcases he with h | h; omega; exact h
      have k2 := h3.le (x := x) (y := y - 1) hx (by omega) (by omega)
      have k3 := h2 x hx (by omega)
      rcases Nat.lt_or_ge (r (h i)) (r (h x)) with h | h
      · exact .inl h
      · exact .inr ⟨by omega, by rw [hii]; exact k3.2⟩
    · rw [rot_r (x := y) (by omega), show y - (i + 1 - i) = y - 1 by omega]
      rcases Nat.lt_trichotomy x j with hxj | hxj | hxj
      · rw [rot_out hji (by omega) (by omega)]
        exact h3 x (y - 1) hx (by omega) (by omega)
      · subst hxj
        rw [rot_l (by omega), show x + (i - x) = i by omega]
        exact .inl (hp (y - 1) (by omega) (by omega))
      · rw [rot_r (by omega), show x - (i + 1 - i) = x - 1 by omega]
        exact h3 (x - 1) (y - 1) (by omega) (by omega) (by omega)
theorem ins_start {r f : Nat → Nat} {a b : Nat} (hid : ∀ x, a ≤ x → x < b → f x = x) : Ins r f f a (min (a + 1) b) := by
  refine ⟨fun _ _ => rfl, fun x hx hxi => ?_, fun x y hx hxy hy => by omega⟩
  rw [hid x hx (by omega)]; omega
theorem sgn_lt_iff {x y : Nat} : (((y : Nat) : Int) - ((x : Nat) : Int)).sign < 0 ↔ y < x := by
  rw [Int.sign_neg_iff]; omega

set_option maxHeartbeats 4000000 in
set_option maxRecDepth 100000 in
theorem insertion_c (F : Fam) (G : F.Good) {f : Nat → Nat} {w : World} (R : F.Row f w) (a b cap : Nat) (hab : a ≤ b) (hb : b ≤ F.n) (hid : ∀ x, a ≤ x → x < b → f x = x) :
    Calls Try.prog 79 #[.slice (some ⟨F.blk, F.off, none⟩) F.n cap, .int .i64 (a : Int), .int .i64 (b : Int), (.func (.func 56) #[] #[])] w fun e w' => e = .returned (.tuple #[]) ∧ ∃ g, F.Row g w' ∧ Ins F.r f g a b := by
  have few := G.few
  have HR0 := Lib.hid R
  have HI0 := Lib.hid (ins_start (r := F.r) hid)
  have HD := Lib.hid hid
  clear R hid
  go_enter Try.func79, Try.ntmps79
  go_wp2
  go_loopw [8] (fun v1 wr => ∃ (i : Nat) (h : Nat → Nat), a + 1 ≤ i ∧ i ≤ b + 1 ∧ (i ≤ b ∨ a = b) ∧ v1 = .int .i64 (i : Int) ∧ F.Row h wr ∧ Hid (Ins F.r f h a (min i b))) (fun v1 _ => b + 1 - (intOf v1).toNat)
  case atStart => exact ⟨a + 1, f, Nat.le_refl _, by omega, by omega, by go_num, HR0.out, HI0⟩
  case round =>
    obtain ⟨i, h, hai, hib, hib2, rfl, R, HI⟩ := hrel
    clear HR0 HI0
    rcases Nat.lt_or_ge i b with hlt | hge
    · have hm : min i b = i := by omega
      rw [hm] at HI
      clear hm
      have HF := Lib.hid (HD.out i (by omega) hlt)
      have HR1 := Lib.hid (R.congr fun x _ => rot_none h i (i + 1) x)
      clear R
      go_wp2
      go_loopw [9] (fun v2 wr2 => ∃ (j : Nat), a ≤ j ∧ j ≤ i ∧ v2 = .int .i64 (j : Int) ∧ F.Row (rot h j i (i + 1)) wr2 ∧ Hid (∀ y, j ≤ y → y < i → F.r (h y) < F.r (h i))) (fun v2 _ => (intOf v2).toNat)
      case atStart => exact ⟨i, by omega, Nat.le_refl _, rfl, HR1.out, fun y h1 h2 => by omega⟩
      case round =>
        obtain ⟨j, haj, hji, rfl, R, HP⟩ := hrel
        clear HR1
        rcases Nat.lt_or_ge a j with hlj | hgj
        · obtain ⟨v, hv⟩ : ∃ v, j = v + 1 := ⟨j - 1, by omega⟩
          obtain ⟨X, hX⟩ : ∃ X, rot h j i (i + 1) j = X := ⟨_, rfl⟩
          obtain ⟨Y, hY⟩ : ∃ Y, rot h j i (i + 1) v = Y := ⟨_, rfl⟩
          have hX1 : X = h i := by rw [← hX, rot_l (by omega)]; congr 1; omega
          have hY1 : Y = h v := by rw [← hY, rot_out hji (by omega) (by omega)]
          obtain ⟨a0, a1, a2, a3⟩ := R.four (j := j) (by omega)
          obtain ⟨b0, b1, b2, b3⟩ := R.four (j := v) (by omega)
          rw [hX] at a0 a1 a2 a3
          rw [hY] at b0 b1 b2 b3
          have hXn : X < F.n := by obtain ⟨g, hg⟩ := R.bij; rw [← hX]; exact (hg j (by omega)).1
          have hYn : Y < F.n := by obtain ⟨g, hg⟩ := R.bij; rw [← hY]; exact (hg v (by omega)).1
          have hwv : IntKind.i64.wrap ((j : Int) - 1) = ((v : Nat) : Int) := by rw [IntWalk.i64_in _ (by omega)]; omega
          have haz : (a : Int) < (j : Int) := by omega
          have hjn : (j : Int) < (F.n : Int) := by omega
          have hvn : ((v : Nat) : Int) < (F.n : Int) := by omega
          have HX := Lib.hid hX; have HY := Lib.hid hY; have HX1 := Lib.hid hX1; have HY1 := Lib.hid hY1; have HV := Lib.hid hv
          have HR2 := Lib.hid R
          clear hX hY hX1 hY1 hv R
          by_cases hcmp : F.r Y < F.r X
          · have hsg : (((F.r Y : Nat) : Int) - ((F.r X : Nat) : Int)).sign < 0 := sgn_lt_iff.2 hcmp
            obtain ⟨σ, hσ⟩ : ∃ σ, (((F.r Y : Nat) : Int) - ((F.r X : Nat) : Int)).sign = σ := ⟨_, rfl⟩
            rw [hσ] at hsg
            have HSG := Lib.hid hσ; clear hσ
            go_wp2_with fail
            go_region_held3 (fun w' => w'.cell? ⟨F.blk, F.off + j * 4, none⟩ = some (.int .i64 ((X : Nat) : Int)) ∧ w'.cell? ⟨F.blk, F.off + j * 4 + 1, none⟩ = some (.int .i64 (F.q X)) ∧ w'.cell? ⟨F.blk, F.off + j * 4 + 2, none⟩ = some (.bool (F.sg X)) ∧ w'.cell? ⟨F.blk, F.off + j * 4 + 3, none⟩ = some (.slice (F.A X) (F.m X) (F.c X)) ∧ w'.cell? ⟨F.blk, F.off + v * 4, none⟩ = some (.int .i64 ((Y : Nat) : Int)) ∧ w'.cell? ⟨F.blk, F.off + v * 4 + 1, none⟩ = some (.int .i64 (F.q Y)) ∧ w'.cell? ⟨F.blk, F.off + v * 4 + 2, none⟩ = some (.bool (F.sg Y)) ∧ w'.cell? ⟨F.blk, F.off + v * 4 + 3, none⟩ = some (.slice (F.A Y) (F.m Y) (F.c Y)))
              (first | (with_reducible exact ⟨c0, c1, c2, c3, d0, d1, d2, d3⟩) | (exact ⟨a0, a1, a2, a3, b0, b1, b2, b3⟩))
              (first
                | (go_at_call 56; refine (test_c F G HR2.out.drew hXn hYn).mono ?_; rintro e w2 ⟨rfl, hb2⟩; rw [HSG.out]; have R3 := HR2.out.drew.below hb2; obtain ⟨c0, c1, c2, c3⟩ := R3.four (j := j) (by omega); obtain ⟨d0, d1, d2, d3⟩ := R3.four (j := v) (by omega); rw [HX.out] at c0 c1 c2 c3; rw [HY.out] at d0 d1 d2 d3))
            have HS := Lib.hid (R3.swap (i := j) (j := v) (by omega) (by omega)).drew
            have ia0 := R3.ice (F.off + j * 4); have ia1 := R3.ice (F.off + j * 4 + 1); have ia2 := R3.ice (F.off + j * 4 + 2); have ia3 := R3.ice (F.off + j * 4 + 3)
            have ib0 := R3.ice (F.off + v * 4); have ib1 := R3.ice (F.off + v * 4 + 1); have ib2 := R3.ice (F.off + v * 4 + 2); have ib3 := R3.ice (F.off + v * 4 + 3)
            have hvj : v < j := by have := HV.out; omega
            have CMP := Lib.hid hcmp
            clear a0 a1 a2 a3 b0 b1 b2 b3 R3 hb2 HR2 hsg hcmp hXn hYn
            go_wp2_with fail
            go_region
            all_goals
              go_wp2
              go_roundw
              case rel =>
                refine ⟨v, by have := HV.out; omega, by have := HV.out; omega, (by first | go_num | (congr 1; have := HV.out; omega)), ?_, fun y h1 h2 => ?_⟩
                · have h9 := HS.out.congr (g := rot h v i (i + 1)) fun x _ => by
                    have hvj1 : v = j - 1 := by have := HV.out; omega
                    rw [hvj1]
                    exact (rot_down h _ hlj hji (fun _ => rfl) x).symm
                  rw [HX.out, HY.out] at h9
                  exact h9
                · rcases Nat.lt_or_ge v y with h3 | h3
                  · exact HP.out y (by have := HV.out; omega) h2
                  · have hyv : y = v := by omega
                    rw [hyv, ← HX1.out, ← HY1.out]
                    exact CMP.out
              case measure => have := HV.out; simp [intOf]; omega
          · have hsg : ¬ (((F.r Y : Nat) : Int) - ((F.r X : Nat) : Int)).sign < 0 := fun h => hcmp (sgn_lt_iff.1 h)
            obtain ⟨σ, hσ⟩ : ∃ σ, (((F.r Y : Nat) : Int) - ((F.r X : Nat) : Int)).sign = σ := ⟨_, rfl⟩
            rw [hσ] at hsg
            have HSG := Lib.hid hσ; clear hσ
            go_wp2_with fail
            go_region_held3 (fun w' => w'.cell? ⟨F.blk, F.off + j * 4, none⟩ = some (.int .i64 ((X : Nat) : Int)) ∧ w'.cell? ⟨F.blk, F.off + j * 4 + 1, none⟩ = some (.int .i64 (F.q X)) ∧ w'.cell? ⟨F.blk, F.off + j * 4 + 2, none⟩ = some (.bool (F.sg X)) ∧ w'.cell? ⟨F.blk, F.off + j * 4 + 3, none⟩ = some (.slice (F.A X) (F.m X) (F.c X)) ∧ w'.cell? ⟨F.blk, F.off + v * 4, none⟩ = some (.int .i64 ((Y : Nat) : Int)) ∧ w'.cell? ⟨F.blk, F.off + v * 4 + 1, none⟩ = some (.int .i64 (F.q Y)) ∧ w'.cell? ⟨F.blk, F.off + v * 4 + 2, none⟩ = some (.bool (F.sg Y)) ∧ w'.cell? ⟨F.blk, F.off + v * 4 + 3, none⟩ = some (.slice (F.A Y) (F.m Y) (F.c Y)))
              (first | (with_reducible exact ⟨c0, c1, c2, c3, d0, d1, d2, d3⟩) | (exact ⟨a0, a1, a2, a3, b0, b1, b2, b3⟩))
              (first
                | (go_at_call 56; refine (test_c F G HR2.out.drew hXn hYn).mono ?_; rintro e w2 ⟨rfl, hb2⟩; rw [HSG.out]; have R3 := HR2.out.drew.below hb2; obtain ⟨c0, c1, c2, c3⟩ := R3.four (j := j) (by omega); obtain ⟨d0, d1, d2, d3⟩ := R3.four (j := v) (by omega); rw [HX.out] at c0 c1 c2 c3; rw [HY.out] at d0 d1 d2 d3))
            have CMP := Lib.hid hcmp
            have HR3 := Lib.hid R3
            clear a0 a1 a2 a3 b0 b1 b2 b3 c0 c1 c2 c3 d0 d1 d2 d3 R3 hb2 HR2 hcmp hXn hYn
            go_wp2
            go_roundw
            case rel =>
              refine ⟨i + 1, rot h j i (i + 1), by omega, by omega, by omega, by go_num, HR3.out, ?_⟩
              rw [show min (i + 1) b = i + 1 by omega]
              exact ins_exit HI.out HF.out (by omega) haj hji HP.out (.inr (by rw [← HX1.out, show j - 1 = v by have := HV.out; omega, ← HY1.out]; have := CMP.out; omega))
            case measure => simp [intOf]; omega
        · obtain rfl : j = a := by omega
          have hg : ¬ (j : Int) < (j : Int) := by omega
          have hg2 : decide ((j : Int) > (j : Int)) = false := decide_eq_false (by omega)
          have HR3 := Lib.hid R.drew
          clear R
          go_wp2_with fail
          go_region
          all_goals
            go_wp2
            go_roundw
            case rel =>
              refine ⟨i + 1, rot h j i (i + 1), by omega, by omega, by omega, by go_num, HR3.out, ?_⟩
              rw [show min (i + 1) b = i + 1 by omega]
              exact ins_exit HI.out HF.out (by omega) haj hji HP.out (.inl rfl)
            case measure => simp [intOf]; omega
    · rw [show min i b = b by omega] at HI
      go_wp2
      go_end0
      exact ⟨rfl, h, R, HI.out⟩

end Go.Proofs.Ytegabimiegdcjaa
