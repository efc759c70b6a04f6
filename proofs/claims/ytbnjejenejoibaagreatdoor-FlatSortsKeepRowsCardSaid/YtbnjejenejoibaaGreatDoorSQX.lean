/- The walk of the stable sort: the insertion sort of a block. The walk of rowOrder. -/
import Derived.Test.YtbnjejenejoibaaGreatDoorC6
import Derived.Deep.RegionHeld3
import Derived.Test.YtbnjejenejoibaaGreatDoorC4
import Derived.Deep.DeepCutAuto
-- merged: SQ4 C7 SQX
namespace Go.Proofs.YtbnjejenejoibaaGreatDoor
open Go.RowKit Limb Stab
set_option linter.unusedVariables false
set_option linter.unusedSimpArgs false
def Ins (r f h : Nat -> Nat) (a i : Nat) : Prop := (∀ x, ¬ (a <= x /\ x < i) -> h x = f x) /\ (∀ x, a <= x -> x < i -> a <= h x /\ h x < i) /\ Srt r h a i
theorem ins_exit {r f h : Nat -> Nat} {a i j : Nat} (hI : Ins r f h a i) (hfi : f i = i) (hai : a <= i) (haj : a <= j) (hji : j <= i) (hp : ∀ y, j <= y -> y < i -> r (h y) < r (h i)) (he : j = a ∨ r (h i) <= r (h (j - 1))) :
  Ins r f (rot h j i (i + 1)) a (i + 1) := by
 obtain ⟨h1, h2, h3⟩ := hI
 have hii : h i = i := by rw [h1 i (by omega)]; exact hfi
 refine ⟨fun x hx => ?_, fun x hx hxi => ?_, fun x y hx hxy hy => ?_⟩
 ·rw [rot_out hji (by omega) (by omega), h1 x (by omega)]
 ·obtain ⟨y, k1, k2, k3⟩ := rot_in (f := h) haj hji (Nat.le_succ i) (Nat.le_refl (i + 1)) x hx hxi
  rw [k3]
  rcases Nat.lt_or_ge y i with k4 | k4
  ·have := h2 y k1 k4; omega
  ·have : y = i := by omega
   subst this; rw [hii]; omega
 ·rcases Nat.lt_trichotomy y j with hyj | hyj | hyj
  ·rw [rot_out hji (by omega) (by omega), rot_out hji (by omega) (by omega)]
   exact h3 x y hx hxy (by omega)
  ·subst hyj
   rw [rot_out hji (by omega) (by omega), rot_l (by omega), show y + (i - y) = i by omega]
   have k1 : r (h i) <= r (h (y - 1)) := by rcases he with h | h; omega; exact h
   have k2 := h3.le (x := x) (y := y - 1) hx (by omega) (by omega)
   have k3 := h2 x hx (by omega)
   rcases Nat.lt_or_ge (r (h i)) (r (h x)) with h | h
   ·exact .inl h
   ·exact .inr ⟨by omega, by rw [hii]; exact k3.2⟩
  ·rw [rot_r (x := y) (by omega), show y - (i + 1 - i) = y - 1 by omega]
   rcases Nat.lt_trichotomy x j with hxj | hxj | hxj
   ·rw [rot_out hji (by omega) (by omega)]
    exact h3 x (y - 1) hx (by omega) (by omega)
   ·subst hxj
    rw [rot_l (by omega), show x + (i - x) = i by omega]
    exact .inl (hp (y - 1) (by omega) (by omega))
   ·rw [rot_r (by omega), show x - (i + 1 - i) = x - 1 by omega]
    exact h3 (x - 1) (y - 1) (by omega) (by omega) (by omega)
theorem ins_start {r f : Nat -> Nat} {a b : Nat} (hid : ∀ x, a <= x -> x < b -> f x = x) : Ins r f f a (min (a + 1) b) := by
 refine ⟨fun _ _ => rfl, fun x hx hxi => ?_, fun x y hx hxy hy => by omega⟩
 rw [hid x hx (by omega)]; omega
set_option maxHeartbeats 4000000 in
set_option maxRecDepth 100000 in
theorem insertion_c (F : Fam) (G : F.Good) {f : Nat -> Nat} {w : World} (R : F.Row f w) (a b cap : Nat) (hab : a <= b) (hb : b <= F.n) (hid : ∀ x, a <= x -> x < b -> f x = x) :
  Calls Tryz.prog 80 #[.slice (some ⟨F.blk, F.off, none⟩) F.n cap, .int .i64 (a : Int), .int .i64 (b : Int), (.func (.func 19) #[] #[.pointer (some ⟨F.kb, 0, none⟩)])] w fun e w' => e = .returned (.tuple #[]) /\ ∃ g, F.Row g w' /\ Ins F.r f g a b := by
 have few := G.few
 have HR0 := Lib.hid R
 have HI0 := Lib.hid (ins_start (r := F.r) hid)
 have HD := Lib.hid hid
 clear R hid
 go_enter Tryz.func80, Tryz.ntmps80
 go_wp2
 go_loopw [8] (fun v1 wr => ∃ (i : Nat) (h : Nat -> Nat), a + 1 <= i /\ i <= b + 1 /\ (i <= b ∨ a = b) /\ v1 = .int .i64 (i : Int) /\ F.Row h wr /\ Hid (Ins F.r f h a (min i b))) (fun v1 _ => b + 1 - (intOf v1).toNat)
 case atStart => exact ⟨a + 1, f, Nat.le_refl _, by omega, by omega, by go_num, HR0.out, HI0⟩
 case round =>
  obtain ⟨i, h, hai, hib, hib2, rfl, R, HI⟩ := hrel
  clear HR0 HI0
  rcases Nat.lt_or_ge i b with hlt | hge
  ·have hm : min i b = i := by omega
   rw [hm] at HI
   clear hm
   have HF := Lib.hid (HD.out i (by omega) hlt)
   have HR1 := Lib.hid (R.congr fun x _ => rot_none h i (i + 1) x)
   clear R
   go_wp2
   go_loopw [9] (fun v2 wr2 => ∃ (j : Nat), a <= j /\ j <= i /\ v2 = .int .i64 (j : Int) /\ F.Row (rot h j i (i + 1)) wr2 /\ Hid (∀ y, j <= y -> y < i -> F.r (h y) < F.r (h i))) (fun v2 _ => (intOf v2).toNat)
   case atStart => exact ⟨i, by omega, Nat.le_refl _, rfl, HR1.out, fun y h1 h2 => by omega⟩
   case round =>
    obtain ⟨j, haj, hji, rfl, R, HP⟩ := hrel
    clear HR1
    rcases Nat.lt_or_ge a j with hlj | hgj
    ·obtain ⟨v, hv⟩ : ∃ v, j = v + 1 := ⟨j - 1, by omega⟩
     obtain ⟨X, hX⟩ : ∃ X, rot h j i (i + 1) j = X := ⟨_, rfl⟩
     obtain ⟨Y, hY⟩ : ∃ Y, rot h j i (i + 1) v = Y := ⟨_, rfl⟩
     have hX1 : X = h i := by rw [<- hX, rot_l (by omega)]; congr 1; omega
     have hY1 : Y = h v := by rw [<- hY, rot_out hji (by omega) (by omega)]
     obtain ⟨a0, a1⟩ := R.two (j := j) (by omega)
     obtain ⟨b0, b1⟩ := R.two (j := v) (by omega)
     rw [hX] at a0 a1
     rw [hY] at b0 b1
     have hXn : X < F.n := by obtain ⟨g, hg⟩ := R.bij; rw [<- hX]; exact (hg j (by omega)).1
     have hYn : Y < F.n := by obtain ⟨g, hg⟩ := R.bij; rw [<- hY]; exact (hg v (by omega)).1
     have hwv : IntKind.i64.wrap ((j : Int) - 1) = ((v : Nat) : Int) := by rw [IntWalk.i64_in _ (by omega)]; omega
     have haz : (a : Int) < (j : Int) := by omega
     have hjn : (j : Int) < (F.n : Int) := by omega
     have hvn : ((v : Nat) : Int) < (F.n : Int) := by omega
     have HX := Lib.hid hX; have HY := Lib.hid hY; have HX1 := Lib.hid hX1; have HY1 := Lib.hid hY1; have HV := Lib.hid hv
     have HR2 := Lib.hid R
     clear hX hY hX1 hY1 hv R
     by_cases hcmp : F.r Y < F.r X
     ·have hsg : F.cf X Y < 0 := (G.cmp X Y hXn hYn).2 hcmp
      obtain ⟨σ, hσ⟩ : ∃ σ, F.cf X Y = σ := ⟨_, rfl⟩
      rw [hσ] at hsg
      have HSG := Lib.hid hσ; clear hσ
      go_wp2_with fail
      go_region_held3 (fun w' => w'.cell? ⟨F.blk, F.off + j * 2, none⟩ = some (.slice (F.A X) (F.m X) (F.c X)) /\ w'.cell? ⟨F.blk, F.off + j * 2 + 1, none⟩ = some (.string (F.V X)) /\ w'.cell? ⟨F.blk, F.off + v * 2, none⟩ = some (.slice (F.A Y) (F.m Y) (F.c Y)) /\ w'.cell? ⟨F.blk, F.off + v * 2 + 1, none⟩ = some (.string (F.V Y)))
       (first | (with_reducible exact ⟨c0, c1, d0, d1⟩) | (exact ⟨a0, a1, b0, b1⟩))
       (first
        | (go_at_call 19; refine (test_c F G HR2.out.drew hXn hYn).mono ?_; rintro e w2 ⟨rfl, hb2⟩; rw [HSG.out]; have R3 := HR2.out.drew.below hb2; obtain ⟨c0, c1⟩ := R3.two (j := j) (by omega); obtain ⟨d0, d1⟩ := R3.two (j := v) (by omega); rw [HX.out] at c0 c1; rw [HY.out] at d0 d1))
      have HS := Lib.hid (R3.swap (i := j) (j := v) (by omega) (by omega)).drew
      have ia0 := R3.ice (F.off + j * 2); have ia1 := R3.ice (F.off + j * 2 + 1)
      have ib0 := R3.ice (F.off + v * 2); have ib1 := R3.ice (F.off + v * 2 + 1)
      have hvj : v < j := by have := HV.out; omega
      have CMP := Lib.hid hcmp
      clear a0 a1 b0 b1 R3 hb2 HR2 hsg hcmp hXn hYn
      go_wp2_with fail
      go_region
      all_goals
       go_wp2
       go_roundw
       case rel =>
        refine ⟨v, by have := HV.out; omega, by have := HV.out; omega, (by first | go_num | (congr 1; have := HV.out; omega)), ?_, fun y h1 h2 => ?_⟩
        ·have h9 := HS.out.congr (g := rot h v i (i + 1)) fun x _ => by
          have hvj1 : v = j - 1 := by have := HV.out; omega
          rw [hvj1]
          exact (rot_down h _ hlj hji (fun _ => rfl) x).symm
         rw [HX.out, HY.out] at h9
         exact h9
        ·rcases Nat.lt_or_ge v y with h3 | h3
         ·exact HP.out y (by have := HV.out; omega) h2
         ·have hyv : y = v := by omega
          rw [hyv, <- HX1.out, <- HY1.out]
          exact CMP.out
       case measure => have := HV.out; simp [intOf]; omega
     ·have hsg : ¬ F.cf X Y < 0 := fun h => hcmp ((G.cmp X Y hXn hYn).1 h)
      obtain ⟨σ, hσ⟩ : ∃ σ, F.cf X Y = σ := ⟨_, rfl⟩
      rw [hσ] at hsg
      have HSG := Lib.hid hσ; clear hσ
      go_wp2_with fail
      go_region_held3 (fun w' => w'.cell? ⟨F.blk, F.off + j * 2, none⟩ = some (.slice (F.A X) (F.m X) (F.c X)) /\ w'.cell? ⟨F.blk, F.off + j * 2 + 1, none⟩ = some (.string (F.V X)) /\ w'.cell? ⟨F.blk, F.off + v * 2, none⟩ = some (.slice (F.A Y) (F.m Y) (F.c Y)) /\ w'.cell? ⟨F.blk, F.off + v * 2 + 1, none⟩ = some (.string (F.V Y)))
       (first | (with_reducible exact ⟨c0, c1, d0, d1⟩) | (exact ⟨a0, a1, b0, b1⟩))
       (first
        | (go_at_call 19; refine (test_c F G HR2.out.drew hXn hYn).mono ?_; rintro e w2 ⟨rfl, hb2⟩; rw [HSG.out]; have R3 := HR2.out.drew.below hb2; obtain ⟨c0, c1⟩ := R3.two (j := j) (by omega); obtain ⟨d0, d1⟩ := R3.two (j := v) (by omega); rw [HX.out] at c0 c1; rw [HY.out] at d0 d1))
      have CMP := Lib.hid hcmp
      have HR3 := Lib.hid R3
      clear a0 a1 b0 b1 c0 c1 d0 d1 R3 hb2 HR2 hcmp hXn hYn
      go_wp2
      go_roundw
      case rel =>
       refine ⟨i + 1, rot h j i (i + 1), by omega, by omega, by omega, by go_num, HR3.out, ?_⟩
       rw [show min (i + 1) b = i + 1 by omega]
       exact ins_exit HI.out HF.out (by omega) haj hji HP.out (.inr (by rw [<- HX1.out, show j - 1 = v by have := HV.out; omega, <- HY1.out]; have := CMP.out; omega))
      case measure => simp [intOf]; omega
    ·obtain rfl : j = a := by omega
     have hg : ¬ (j : Int) < (j : Int) := by omega
     have hg2 : decide ((j : Int) > (j : Int)) = false := decide_eq_false (by omega)
     have HR3 := Lib.hid R.drew
     clear R
     go_wp2_with fail
     go_region
     all_goals
      go_wp2
      go_roundw
      case rel =>
       refine ⟨i + 1, rot h j i (i + 1), by omega, by omega, by omega, by go_num, HR3.out, ?_⟩
       rw [show min (i + 1) b = i + 1 by omega]
       exact ins_exit HI.out HF.out (by omega) haj hji HP.out (.inl rfl)
      case measure => simp [intOf]; omega
  ·rw [show min i b = b by omega] at HI
   go_wp2
   go_end0
   exact ⟨rfl, h, R, HI.out⟩
end Go.Proofs.YtbnjejenejoibaaGreatDoor
namespace Go.Proofs.YtbnjejenejoibaaGreatDoor
open Go.RowKit Limb Nmb Work
set_option linter.unusedVariables false
set_option linter.unusedSimpArgs false
theorem manyN_le (rs : List RowP) (tag : ByteArray) (fr : Nat) : ∀ n, manyN rs tag fr n <= n
 | 0 => Nat.le_refl _
 | n + 1 => by
  have := manyN_le rs tag fr n
  unfold manyN
  split <;> omega
set_option maxHeartbeats 4000000 in
set_option maxRecDepth 100000 in
theorem roworder_c (f : Fmt) (A : Option Addr) (cp : Nat) (FA : Nat -> Option Addr) (FC : Nat -> Nat) (L : Option Addr) (LC : Nat) (rs : List RowP) (RA : Nat -> Option Addr) (RC : Nat -> Nat) (i : Nat) (w : World) (ho : Kinds w A f.kinds FA FC) (hf : checkF f = 0) (hl : RowsM w L rs RA RC) (hLC : rs.length <= LC) (hi : i < rs.length) (hLM : LC <= 9223372036854775807) :
  Calls Tryz.prog 62 #[fmtG f A cp, .slice L rs.length LC, .int .i64 (i : Int)] w (RetI (rowO f rs i) w) := by
 have HKA := Lib.hid (fun w h => kindat_c f A cp FA FC (rA rs i).tag w h)
 have HOV := Lib.hid (fun t w h h2 => overof_c f A cp FA FC L LC rs RA RC i t w h hf h2 (Nat.le_of_lt hi))
 have HOI := Lib.hid (fun t => overI_lt f rs t i)
 have HKI := Lib.hid ho; have HLM := Lib.hid hl
 have hnr := hl.len
 have HM1 := Lib.hid (show ∀ fr n, manyN rs (rA rs i).tag fr (n + 1) = manyN rs (rA rs i).tag fr n + (if (rA rs (fr + n)).tag = (rA rs i).tag then 1 else 0) from fun _ _ => rfl)
 have HM0 := Lib.hid (show ∀ fr, manyN rs (rA rs i).tag fr 0 = 0 from fun _ => rfl)
 have HML := Lib.hid (fun fr n => manyN_le rs (rA rs i).tag fr n)
 obtain ⟨R, hR⟩ : ∃ x, rowO f rs i = x := ⟨_, rfl⟩
 have HFI := Lib.hid (show fromI f rs i = if (katK f (rA rs i).tag).under = ⟨#[]⟩ then 0 else overI f rs (katK f (rA rs i).tag).under i from rfl)
 obtain ⟨FI, hFI⟩ : ∃ x, fromI f rs i = x := ⟨_, rfl⟩
 have HR := Lib.hid hR
 unfold rowO at HR
 rw [hFI] at HR HFI
 rw [hR]
 unfold RetI at HOV ⊢
 clear ho hf hl hR hFI
 obtain ⟨rt, hrt⟩ : ∃ x, (rA rs i).tag = x := ⟨_, rfl⟩
 have HRT := Lib.hid hrt
 rw [hrt] at HKA HM1 HM0 HML HFI HR
 obtain ⟨MN, hMN⟩ : ∃ x, manyN rs rt = x := ⟨_, rfl⟩
 rw [hMN] at HM1 HM0 HML HR
 obtain ⟨K, hK⟩ : ∃ x, katK f rt = x := ⟨_, rfl⟩
 rw [hK] at HKA HFI HR
 generalize katA f FA rt = KA at HKA
 generalize katC f FC rt = KC at HKA
 generalize decide (0 <= katI f rt) = KO at HKA
 obtain ⟨OV, hOV⟩ : ∃ x : ByteArray -> Int, (fun t => overI f rs t i) = x := ⟨_, rfl⟩
 have hOVa : ∀ t, overI f rs t i = OV t := fun t => by rw [<- hOV]
 have HOV2 : Hid (∀ t w, Kinds w A f.kinds FA FC -> RowsM w L rs RA RC -> Calls Tryz.prog 106 #[fmtG f A cp, .slice L rs.length LC, .int .i64 (i : Int), .string t] w fun e w' => e = .returned (.int .i64 (OV t)) /\ Below w.heap.size w w') := Lib.hid (fun t w h h2 => by rw [<- hOVa]; exact HOV.out t w h h2)
 have HOI2 : Hid (∀ t, -1 <= OV t /\ OV t < (i : Int)) := Lib.hid (fun t => by rw [<- hOVa]; exact HOI.out t)
 rw [hOVa] at HFI
 clear hrt hMN hK hOV hOVa HOV HOI
 obtain ⟨m, q, ks, hd, tl, ct, sm⟩ := f
 obtain ⟨kt, fs, km, ku⟩ := K
 unfold fmtG at HKA HOV2 ⊢
 unfold kindG at HKA
 simp only at HKA HOV2 HKI HFI HR ⊢
 obtain ⟨nk, hnk⟩ : ∃ x, ks.length = x := ⟨_, rfl⟩
 rw [hnk] at HKA HOV2 ⊢
 obtain ⟨nf, hnf⟩ : ∃ x, fs.length = x := ⟨_, rfl⟩
 rw [hnf] at HKA
 obtain ⟨nr, hnr2⟩ : ∃ x, rs.length = x := ⟨_, rfl⟩
 have HNR := Lib.hid hnr2
 rw [hnr2] at hnr hi hLC HOV2 HR ⊢
 clear hnk hnf hnr2
 have hP := heap_new w (.cells #[.int .u8 m, .int .u8 q, .slice A nk cp, .string hd, .string tl, .string ct, .string sm] 24) rfl
 have hB1 : Below w.heap.size w (w.alloc (.cells #[.int .u8 m, .int .u8 q, .slice A nk cp, .string hd, .string tl, .string ct, .string sm] 24)) := by go_grown
 go_enter Tryz.func62, Tryz.ntmps62
 go_upto_region 1 with fail
 generalize w.alloc (.cells #[.int .u8 m, .int .u8 q, .slice A nk cp, .string hd, .string tl, .string ct, .string sm] 24) = w1 at hP hB1 ⊢
 have HW := Lib.hid (show ∀ wx, Below w1.heap.size w1 wx -> wx.heap[w.heap.size]? = some (.cells #[.int .u8 m, .int .u8 q, .slice A nk cp, .string hd, .string tl, .string ct, .string sm] 24 (0, 0)) /\ Kinds wx A ks FA FC /\ RowsM wx L rs RA RC /\ Below w.heap.size w wx from fun wx h => by
  have h2 := below_then h hB1 hB1.size
  exact ⟨heap_below hP h, HKI.out.below h2, HLM.out.below h2, h2⟩)
 clear hP hB1
 obtain ⟨q1, qk, ql, qb⟩ := HW.out _ (Below.refl _ _)
 obtain ⟨⟨p0, p1, p2, p3, p4, p5, p6⟩, -⟩ := obox7 q1
 obtain ⟨b, off, rfl, hbk, c0, c1⟩ := ql.cells (j := i) (by rw [HNR.out]; exact hi)
 rw [HRT.out] at c0
 have QK := Lib.hid qk; have QB := Lib.hid qb
 clear q1 qk ql qb c1
 obtain ⟨B1, hB1⟩ : ∃ x, decide (hd ≠ ⟨#[]⟩ /\ (decide (rt = hd) ≠ decide (i = 0))) = x := ⟨_, rfl⟩
 obtain ⟨B2, hB2⟩ : ∃ x, decide (tl ≠ ⟨#[]⟩ /\ rt = tl /\ i ≠ nr - 1) = x := ⟨_, rfl⟩
 have HB1 := Lib.hid hB1; have HB2 := Lib.hid hB2
 clear hB1 hB2
 go_upto_region 2 with fail
 go_cut [19] (fun v wx => v = .bool B1 /\ w1 = wx)
 case first =>
  have e1 := emp_dec hd
  have e2 := bytes_dec rt hd
  by_cases k1 : hd = ⟨#[]⟩
  ·have HE := Lib.hid (show B1 = false by rw [<- HB1.out]; exact decide_eq_false (fun h => h.1 k1))
   rw [decide_eq_true k1] at e1
   clear k1
   go_wp2
   go_meet
   exact ⟨by rw [HE.out], rfl⟩
  ·rw [decide_eq_false k1] at e1
   have HE := Lib.hid (show B1 = (decide (rt = hd) != decide (i = 0)) by
    rw [<- HB1.out]
    cases decide (rt = hd) <;> cases decide (i = 0) <;> simp [k1])
   obtain ⟨X, hX⟩ : ∃ x, decide (rt = hd) = x := ⟨_, rfl⟩
   rw [hX] at e2 HE
   clear k1 hX
   rcases Nat.eq_zero_or_pos i with h0 | h0
   ·rw [decide_eq_true h0] at HE
    have h0i : ((i : Int) == 0) = true := by simp [h0]
    clear h0
    cases X <;> (go_wp2; go_meet; exact ⟨by rw [HE.out]; rfl, rfl⟩)
   ·rw [decide_eq_false (by omega)] at HE
    have h0i : ((i : Int) == 0) = false := beq_eq_false_iff_ne.2 (by omega)
    clear h0
    cases X <;> (go_wp2; go_meet; exact ⟨by rw [HE.out]; rfl, rfl⟩)
 case rest =>
 obtain ⟨rfl, rfl⟩ := hcut
 cases hb1 : B1 with
 | true =>
  have HE := Lib.hid (show R = 8 by rw [<- HR.out]; exact if_pos (of_decide_eq_true (HB1.out.trans hb1)))
  clear hb1
  go_wp2
  go_ret
  exact ⟨by rw [HE.out]; rfl, QB.out⟩
 | false =>
 have HR1 := Lib.hid ((if_neg (of_decide_eq_false (HB1.out.trans hb1))).symm.trans HR.out)
 clear hb1 HR HB1
 go_upto_region 4 with fail
 go_cut [32] (fun v wx => v = .bool B2 /\ w1 = wx)
 case first =>
  have e1 := emp_dec tl
  have e2 := bytes_dec rt tl
  by_cases k1 : tl = ⟨#[]⟩
  ·have HE := Lib.hid (show B2 = false by rw [<- HB2.out]; exact decide_eq_false (fun h => h.1 k1))
   rw [decide_eq_true k1] at e1
   clear k1
   go_wp2
   go_meet
   exact ⟨by rw [HE.out], rfl⟩
  ·rw [decide_eq_false k1] at e1
   by_cases k2 : rt = tl
   ·rw [decide_eq_true k2] at e2
    obtain ⟨n1, hn1⟩ : ∃ x, nr - 1 = x := ⟨_, rfl⟩
    have hix : (nr : Int) - 1 = (n1 : Int) := by omega
    have hwr : IntKind.i64.wrap ((n1 : Nat) : Int) = (n1 : Int) := IntWalk.i64_in _ (by omega)
    by_cases k3 : i = n1
    ·have HE := Lib.hid (show B2 = false by rw [<- HB2.out, hn1]; exact decide_eq_false (fun h => h.2.2 k3))
     have h3 : ((i : Int) != (n1 : Int)) = false := by rw [k3]; simp
     clear k1 k2 k3 hn1
     go_wp2
     go_meet
     exact ⟨by rw [HE.out], rfl⟩
    ·have HE := Lib.hid (show B2 = true by rw [<- HB2.out, hn1]; exact decide_eq_true ⟨k1, k2, k3⟩)
     have h3 : ((i : Int) != (n1 : Int)) = true := by simp; omega
     clear k1 k2 k3 hn1
     go_wp2
     go_meet
     exact ⟨by rw [HE.out], rfl⟩
   ·have HE := Lib.hid (show B2 = false by rw [<- HB2.out]; exact decide_eq_false (fun h => k2 h.2.1))
    rw [decide_eq_false k2] at e2
    clear k1 k2
    go_wp2
    go_meet
    exact ⟨by rw [HE.out], rfl⟩
 case rest =>
 obtain ⟨rfl, rfl⟩ := hcut
 cases hb2 : B2 with
 | true =>
  have HE := Lib.hid (show R = 8 by rw [<- HR1.out]; exact if_pos (of_decide_eq_true (HB2.out.trans hb2)))
  clear hb2
  go_wp2
  go_ret
  exact ⟨by rw [HE.out]; rfl, QB.out⟩
 | false =>
 have HR2 := Lib.hid ((if_neg (of_decide_eq_false (HB2.out.trans hb2))).symm.trans HR1.out)
 clear hb2 HR1 HB2
 go_wp2_with fail
 refine (HKA.out _ QK.out).mono ?_
 rintro _ w2 ⟨rfl, hb2⟩
 have hKD := heap_new w2 (.cells #[.string kt, .slice KA nf KC, .int .i64 km, .string ku] 46) rfl
 have hBk : Below w1.heap.size w1 (w2.alloc (.cells #[.string kt, .slice KA nf KC, .int .i64 km, .string ku] 46)) := hb2.alloc hb2.size _
 clear hb2 p0 p1 p2 p3 p4 p5 p6 c0 hbk QK QB HKA
 go_upto_region 7 with fail
 obtain ⟨KB, hKB⟩ : ∃ x, w2.heap.size = x := ⟨_, rfl⟩
 rw [hKB] at hKD
 try rw [hKB]
 generalize w2.alloc (.cells #[.string kt, .slice KA nf KC, .int .i64 km, .string ku] 46) = wk at hKD hBk ⊢
 have HW2 := Lib.hid (show ∀ wx, Below wk.heap.size wk wx -> wx.heap[w.heap.size]? = some (.cells #[.int .u8 m, .int .u8 q, .slice A nk cp, .string hd, .string tl, .string ct, .string sm] 24 (0, 0)) /\ wx.heap[KB]? = some (.cells #[.string kt, .slice KA nf KC, .int .i64 km, .string ku] 46 (0, 0)) /\ Kinds wx A ks FA FC /\ RowsM wx (some ⟨b, off, none⟩) rs RA RC /\ Below w.heap.size w wx from fun wx h => by
  have h2 := below_then h hBk hBk.size
  obtain ⟨g1, g2, g3, g4⟩ := HW.out wx h2
  exact ⟨g1, heap_below hKD h, g2, g3, g4⟩)
 clear hKD hBk hKB
 obtain ⟨q1, q2, qk, ql, qb⟩ := HW2.out _ (Below.refl _ _)
 obtain ⟨⟨p0, p1, p2, p3, p4, p5, p6⟩, -⟩ := obox7 q1
 obtain ⟨⟨k0, k1, k2, k3⟩, -, -⟩ := obox4 q2
 have e1 := emp_dec ku
 obtain ⟨S0, hS0⟩ : ∃ x, decide (ku = ⟨#[]⟩) = x := ⟨_, rfl⟩
 rw [hS0] at e1
 have HS0 := Lib.hid hS0
 have QK := Lib.hid qk; have QL := Lib.hid ql; have QB := Lib.hid qb
 clear hS0 q1 q2 qk ql qb
 go_upto_if 57 with fail
 go_cut [10] (fun v wx => ∃ FR : Nat, v = .int .i64 (FR : Int) /\ FR <= i /\ Hid (FI = (FR : Int)) /\ Hid (Below wk.heap.size wk wx))
 case first =>
  cases hS : S0 with
  | true =>
   have hse := of_decide_eq_true (HS0.out.trans hS)
   have HE := Lib.hid (show FI = ((0 : Nat) : Int) by rw [HFI.out, if_pos hse]; rfl)
   clear hS hse
   go_wp2
   go_meet
   exact ⟨0, rfl, Nat.zero_le _, HE, Lib.hid (Below.refl _ _)⟩
  | false =>
   have hsn := of_decide_eq_false (HS0.out.trans hS)
   have HE := Lib.hid (show FI = OV ku by rw [HFI.out, if_neg hsn])
   have hov := HOI2.out ku
   clear hS hsn
   go_wp2_with fail
   refine (HOV2.out ku _ QK.out QL.out).mono ?_
   rintro _ w3 ⟨rfl, hb3⟩
   obtain ⟨OK, hOK⟩ : ∃ x, OV ku = x := ⟨_, rfl⟩
   rw [hOK] at hov
   rw [hOK]
   have HOK := Lib.hid hOK
   have HB3 := Lib.hid hb3
   clear hOK hb3
   rcases Int.lt_or_le OK 0 with hneg | hpos
   ·have HE2 := Lib.hid (show R = 8 by rw [<- HR2.out]; exact if_pos (by rw [HE.out, HOK.out]; exact hneg))
    have hB := (HW2.out _ HB3.out).2.2.2.2
    go_wp2
    go_ret
    exact ⟨by rw [HE2.out]; rfl, hB⟩
   ·obtain ⟨FR, hFR⟩ : ∃ x, OK.toNat = x := ⟨_, rfl⟩
    have hOF : OK = (FR : Int) := by omega
    subst hOF
    have hn : ¬ ((FR : Int) < 0) := by omega
    clear hFR hpos
    go_wp2
    go_meet
    exact ⟨FR, rfl, by omega, Lib.hid (HE.out.trans HOK.out), HB3⟩
 case rest =>
 obtain ⟨FR, rfl, hFR, HF, HB⟩ := hcut
 have HR3 := Lib.hid ((if_neg (by rw [HF.out]; omega)).symm.trans HR2.out)
 rw [HF.out, Int.toNat_natCast] at HR3
 clear p0 p1 p2 p3 p4 p5 p6 k0 k1 k2 k3 e1 HR2 QK QL QB HFI
 obtain ⟨q1, q2, qk, ql, qb⟩ := HW2.out _ HB.out
 obtain ⟨⟨k0, k1, k2, k3⟩, -, -⟩ := obox4 q2
 have QB := Lib.hid qb
 by_cases hm0 : km = 0
 ·have HE := Lib.hid (show R = 0 by rw [<- HR3.out]; exact if_pos hm0)
  have hm1 : (km == 0) = true := by simp [hm0]
  clear q1 q2 qk ql qb hm0
  go_wp2
  go_ret
  exact ⟨by rw [HE.out]; rfl, QB.out⟩
 have HR4 := Lib.hid ((if_neg hm0).symm.trans HR3.out)
 have hm1 : (km == 0) = false := beq_eq_false_iff_ne.2 hm0
 obtain ⟨nn, hnn⟩ : ∃ x, i + 1 - FR = x := ⟨_, rfl⟩
 have HNN := Lib.hid hnn
 rw [hnn] at HR4
 have hwi : IntKind.i64.wrap ((i : Int) + 1) = (i : Int) + 1 := IntWalk.i64_in _ (by omega)
 have g1 : (0 : Int) <= (FR : Int) := by omega
 have g2 : (FR : Int) <= (i : Int) + 1 := by omega
 have g3 : (i : Int) + 1 <= (LC : Int) := by omega
 have g4 : ¬ LC = FR := by omega
 have g5 : ((i : Int) + 1).toNat - FR = nn := by omega
 have g6 : i + 1 - FR = nn := hnn
 clear q1 q2 qk ql qb hm0 HR3
 go_wp2_with fail
 clear k0 k1 k2 k3
 go_loopw [75, 11] (fun x y wr => ∃ j : Nat, j <= nn /\ x = .int .i64 (j : Int) /\ y = .int .i64 ((MN FR j : Nat) : Int) /\ Hid (Below wk.heap.size wk wr)) (fun x _ _ => nn - (intOf x).toNat)
 case atStart => exact ⟨0, Nat.zero_le _, rfl, by rw [HM0.out]; rfl, HB⟩
 case round =>
  clear HB QB
  obtain ⟨j, hj, rfl, rfl, HB⟩ := hrel
  have hml := HML.out FR j
  obtain ⟨-, q2, -, ql, qb⟩ := HW2.out _ HB.out
  have QB := Lib.hid qb
  rcases Nat.lt_or_ge j nn with hlt | hge
  ·obtain ⟨b', off', hbe, hbk, c0, c1⟩ := ql.cells (j := FR + j) (by rw [HNR.out]; omega)
   cases hbe
   have HMS := Lib.hid (HM1.out FR j)
   obtain ⟨MJ, hMJ⟩ : ∃ x, MN FR j = x := ⟨_, rfl⟩
   rw [hMJ] at HMS hml
   rw [hMJ]
   rw [show off + (FR + j) * 2 = off + FR * 2 + j * 2 by omega] at c0 c1
   obtain ⟨r, hr⟩ : ∃ x, rA rs (FR + j) = x := ⟨_, rfl⟩
   rw [hr] at c0 c1 HMS
   generalize RA (FR + j) = RJ at c1
   generalize RC (FR + j) = CJ at c1
   obtain ⟨rt2, vs⟩ := r
   simp only at c0 c1 HMS
   obtain ⟨nv, hnv⟩ : ∃ x, vs.length = x := ⟨_, rfl⟩
   rw [hnv] at c1
   have hRD := heap_new wr (.cells #[.string rt2, .slice RJ nv CJ] 51) rfl
   have HB2 := Lib.hid (HB.out.alloc HB.out.size (.cells #[.string rt2, .slice RJ nv CJ] 51))
   have e1 := bytes_dec rt2 rt
   clear hMJ hr hnv q2 ql qb
   go_upto_region 18 with fail
   obtain ⟨rb, hrb⟩ : ∃ x, wr.heap.size = x := ⟨_, rfl⟩
   rw [hrb] at hRD
   try rw [hrb]
   generalize wr.alloc (.cells #[.string rt2, .slice RJ nv CJ] 51) = w2 at hRD HB2 ⊢
   obtain ⟨r0, r1, -, -, -⟩ := box2 hRD
   clear hrb c0 c1 hbk hRD HB QB
   by_cases h1 : rt2 = rt
   ·have HN := Lib.hid (show MN FR (j + 1) = MJ + 1 by rw [HMS.out, if_pos h1])
    rw [decide_eq_true h1] at e1
    clear h1
    go_wp2
    go_roundw
    case rel => exact ⟨j + 1, by omega, by go_num, by rw [HN.out]; go_num, HB2⟩
    case measure => simp [intOf]; omega
   ·have HN := Lib.hid (show MN FR (j + 1) = MJ by rw [HMS.out, if_neg h1]; rfl)
    rw [decide_eq_false h1] at e1
    clear h1
    go_wp2
    go_roundw
    case rel => exact ⟨j + 1, by omega, by go_num, by rw [HN.out], HB2⟩
    case measure => simp [intOf]; omega
  ·obtain rfl : j = nn := by omega
   obtain ⟨⟨k0, k1, k2, k3⟩, -, -⟩ := obox4 q2
   obtain ⟨MJ, hMJ⟩ : ∃ x, MN FR j = x := ⟨_, rfl⟩
   have HR5 := HR4.out
   rw [hMJ] at HR5
   rw [hMJ]
   have HR5 := Lib.hid HR5
   clear hMJ q2 ql qb
   by_cases hkm : km < (MJ : Int)
   ·have HE := Lib.hid (show R = 2 by rw [<- HR5.out]; exact if_pos hkm)
    go_wp2
    go_ret
    exact ⟨by rw [HE.out]; rfl, QB.out⟩
   ·have HE := Lib.hid (show R = 0 by rw [<- HR5.out]; exact if_neg hkm)
    go_wp2
    go_ret
    exact ⟨by rw [HE.out]; rfl, QB.out⟩
noncomputable def fstI (l : List RowP) (r : RowP) : Nat -> Int
 | 0 => -1
 | k + 1 => if 0 <= fstI l r k then fstI l r k else if [r] = [rA l k] then k else -1
theorem fstI_ge (l : List RowP) (r : RowP) : ∀ k, -1 <= fstI l r k
 | 0 => Int.le_refl _
 | k + 1 => by
  have ih := fstI_ge l r k
  unfold fstI
  split
  ·omega
  ·split <;> omega
theorem fstI_at {l : List RowP} {r : RowP} : ∀ {k : Nat}, 0 <= fstI l r k -> (fstI l r k).toNat < k /\ rA l (fstI l r k).toNat = r
 | 0, h => by simp [fstI] at h
 | k + 1, h => by
  unfold fstI at h ⊢
  by_cases h1 : 0 <= fstI l r k
  ·rw [if_pos h1]
   have := fstI_at h1
   exact ⟨by omega, this.2⟩
  ·rw [if_neg h1] at h ⊢
   by_cases h2 : [r] = [rA l k]
   ·rw [if_pos h2]
    exact ⟨by omega, by cases h2; simp⟩
   ·rw [if_neg h2] at h; omega
theorem fstI_hit {l : List RowP} {r : RowP} {j : Nat} (h : rA l j = r) : ∀ {k : Nat}, j < k -> 0 <= fstI l r k
 | 0, hj => absurd hj (Nat.not_lt_zero _)
 | k + 1, hj => by
  unfold fstI
  by_cases h1 : 0 <= fstI l r k
  ·rw [if_pos h1]; exact h1
  ·rw [if_neg h1]
   rcases Nat.lt_or_ge j k with hl | hl
   ·exact absurd (fstI_hit h hl) h1
   ·have : j = k := by omega
    subst this
    rw [if_pos (by rw [h])]
    omega
theorem fstI_old {l : List RowP} {r : RowP} {k : Nat} (h : 0 <= fstI l r k) : fstI l r (k + 1) = fstI l r k := by
 show (if 0 <= fstI l r k then fstI l r k else _) = _
 rw [if_pos h]
theorem fstI_new {l : List RowP} {r : RowP} {k : Nat} (h : fstI l r k < 0) (h2 : [r] = [rA l k]) : fstI l r (k + 1) = k := by
 show (if 0 <= fstI l r k then fstI l r k else if [r] = [rA l k] then (k : Int) else -1) = _
 rw [if_neg (by omega), if_pos h2]
theorem fstI_no {l : List RowP} {r : RowP} {k : Nat} (h : fstI l r k < 0) (h2 : ¬ [r] = [rA l k]) : fstI l r (k + 1) = fstI l r k := by
 have := fstI_ge l r k
 show (if 0 <= fstI l r k then fstI l r k else if [r] = [rA l k] then (k : Int) else -1) = _
 rw [if_neg (by omega), if_neg h2]
 omega
theorem rA_appX (l r : List RowP) (j : Nat) : rA (l ++ r) j = if j < l.length then rA l j else rA r (j - l.length) := by
 unfold rA
 rw [List.getD_eq_getElem?_getD, List.getD_eq_getElem?_getD, List.getD_eq_getElem?_getD, List.getElem?_append]
 split <;> rfl
def delI (l : List RowP) (i : Nat) : List RowP := l.take i ++ l.drop (i + 1)
theorem delI_len {l : List RowP} {i : Nat} (h : i < l.length) : (delI l i).length = l.length - 1 := by
 unfold delI
 rw [List.length_append, List.length_take, List.length_drop]
 omega
theorem delI_perm {l m : List RowP} {r : RowP} {i : Nat} (hi : i < l.length) (hr : rA l i = r) (h : l.Perm (r :: m)) : (delI l i).Perm m := by
 have h1 : l = l.take i ++ r :: l.drop (i + 1) := by
  rw [<- hr, <- rA_get hi, List.getElem_cons_drop, List.take_append_drop]
 have h2 : l.Perm (r :: delI l i) := by
  have h3 : (l.take i ++ r :: l.drop (i + 1)).Perm (r :: (l.take i ++ l.drop (i + 1))) := List.perm_middle
  rw [<- h1] at h3
  exact h3
 exact (List.perm_cons r).1 (h2.symm.trans h)
theorem perm_drop {l a : List RowP} {j : Nat} (hj : j < a.length) (h : l.Perm (a.drop j)) : l.Perm (rA a j :: a.drop (j + 1)) := by
 rw [<- rA_get hj, List.getElem_cons_drop]
 exact h
theorem fstI_perm {l a : List RowP} {j : Nat} (hj : j < a.length) (h : l.Perm (a.drop j)) : 0 <= fstI l (rA a j) l.length /\ (fstI l (rA a j) l.length).toNat < l.length /\ (delI l (fstI l (rA a j) l.length).toNat).Perm (a.drop (j + 1)) := by
 have h1 := perm_drop hj h
 obtain ⟨i, hi, e⟩ := List.getElem_of_mem ((h1.mem_iff (a := rA a j)).2 (List.mem_cons_self ..))
 have h2 : 0 <= fstI l (rA a j) l.length := fstI_hit (j := i) (by rw [<- rA_get hi, e]) hi
 have h3 := fstI_at h2
 exact ⟨h2, h3.1, delI_perm h3.1 h3.2 h1⟩
def delA {α : Type} (R : Nat -> α) (i j : Nat) : α := if j < i then R j else R (j + 1)
theorem rA_del {l : List RowP} {i : Nat} (hi : i < l.length) (j : Nat) : rA (delI l i) j = delA (rA l) i j := by
 unfold delI delA
 rw [rA_appX, List.length_take, Nat.min_eq_left (by omega)]
 by_cases h : j < i
 ·rw [if_pos h, if_pos h, rA_take h]
 ·rw [if_neg h, if_neg h, rA_drop, show i + 1 + (j - i) = j + 1 by omega]
theorem rowsC_del {l : List RowP} {RA : Nat -> Option Addr} {RC : Nat -> Nat} {i : Nat} (hi : i < l.length) : (rowsC 2 l.length (rowV l RA RC)).take (i * 2) ++ (rowsC 2 l.length (rowV l RA RC)).drop ((i + 1) * 2) = rowsC 2 (l.length - 1) (rowV (delI l i) (delA RA i) (delA RC i)) := by
 refine rowsC_ext ?_ fun j hj k hk => ?_
 ·rw [List.length_append, List.length_take, List.length_drop, rowsC_len]
  omega
 ·rw [List.getElem?_append, List.length_take, rowsC_len, Nat.min_eq_left (by omega)]
  have hv : rowV (delI l i) (delA RA i) (delA RC i) j k = if j < i then rowV l RA RC j k else rowV l RA RC (j + 1) k := by
   unfold rowV
   rw [rA_del hi]
   unfold delA
   by_cases h : j < i
   ·simp only [if_pos h]
   ·simp only [if_neg h]
  rw [hv]
  by_cases h : j < i
  ·rw [if_pos (by omega), if_pos h, List.getElem?_take, if_pos (by omega)]
   exact rowsC_at (by omega) hk
  ·rw [if_neg (by omega), if_neg h, List.getElem?_drop, show (i + 1) * 2 + (j * 2 + k - i * 2) = (j + 1) * 2 + k by omega]
   exact rowsC_at (by omega) hk
theorem RwsI.del {w1 w' : World} {g n c i : Nat} {l : List RowP} {RA : Nat -> Option Addr} {RC : Nat -> Nat} (hl : l.length = n) (hi : i < n) (h3 : ∀ j, j < l.length -> ∀ wx, Below w1.heap.size w1 wx -> RowM wx (rA l j) (RA j) (RC j))
  (h2 : w'.ownsRow w1.heap.size 51 2 (.slice (some ⟨g, 0, none⟩) (n - 1) c) (n - 1) ((rowsC 2 n (rowV l RA RC)).take (i * 2) ++ (rowsC 2 n (rowV l RA RC)).drop ((i + 1) * 2))) (hb : Below w1.heap.size w1 w') : RwsI w1 w' (some ⟨g, 0, none⟩) (n - 1) c (delI l i) := by
 subst hl
 rw [rowsC_del hi] at h2
 refine ⟨delA RA i, delA RC i, delI_len hi, h2, fun j hj wx hx => ?_, hb⟩
 rw [delI_len hi] at hj
 rw [rA_del hi]
 unfold delA
 by_cases h : j < i
 ·rw [if_pos h, if_pos h, if_pos h]
  exact h3 j (by omega) wx hx
 ·rw [if_neg h, if_neg h, if_neg h]
  exact h3 (j + 1) (by omega) wx hx
theorem RowsM.oneAt {w : World} {L X : Option Addr} {rs : List RowP} {RA : Nat -> Option Addr} {RC : Nat -> Nat} (h : RowsM w L rs RA RC) {i : Nat} (hi : i < rs.length) (hX : ∀ b off, L = some ⟨b, off, none⟩ -> X = some ⟨b, off + i * 2, none⟩) : RowsM w X [rA rs i] (fun _ => RA i) (fun _ => RC i) := by
 refine ⟨fun hn => ?_, fun j hj => ?_, by simp⟩
 ·obtain ⟨b, off, e, hb, hc⟩ := h.rows (by omega)
  refine ⟨b, off + i * 2, hX b off e, hb, fun j hj k hk => ?_⟩
  have hj0 : j = 0 := by simp at hj; omega
  subst hj0
  have h1 := hc i hi k hk
  rw [show off + i * 2 + 0 * 2 + k = off + i * 2 + k by omega, h1]
  unfold rowV
  rfl
 ·have hj0 : j = 0 := by simp at hj; omega
  subst hj0
  exact h.each i hi
theorem RowsM.mk1 {w : World} {A : Option Addr} {d gb : Nat} {r : RowP} {T : TypeId} {fr : Nat × Nat} (hrow : w.heap[gb]? = some (.cells #[.string r.tag, .slice A r.vals.length d] T fr)) (hr : RowM w r A d) : RowsM w (some ⟨gb, 0, none⟩) [r] (fun _ => A) (fun _ => d) := by
 refine ⟨fun hn => ⟨gb, 0, rfl, lt_heap hrow, fun j hj k hk => ?_⟩, fun j hj => ?_, by simp⟩
 ·have hj0 : j = 0 := by simp at hj; omega
  subst hj0
  rcases (show k = 0 ∨ k = 1 by omega) with rfl | rfl
  ·exact cell_of_row w gb 0 _ _ _ hrow
  ·exact cell_of_row w gb 1 _ _ _ hrow
 ·have hj0 : j = 0 := by simp at hj; omega
  subst hj0
  exact hr
end Go.Proofs.YtbnjejenejoibaaGreatDoor
