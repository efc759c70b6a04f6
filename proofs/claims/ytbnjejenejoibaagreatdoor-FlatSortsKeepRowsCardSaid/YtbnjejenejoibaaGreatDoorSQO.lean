/- The walk of the stable sort, whole. Words for Sorted's end: nothing to sort; rows put behind rows; what the sorted spans hold. -/
import Derived.Test.YtbnjejenejoibaaGreatDoorSQ7
import Derived.Test.YtbnjejenejoibaaGreatDoorC4
-- merged: SQ8 SQO
namespace Go.Proofs.YtbnjejenejoibaaGreatDoor
open Go.RowKit Limb Stab
set_option linter.unusedVariables false
set_option linter.unusedSimpArgs false
theorem symmerge_c (F : Fam) (G : F.Good) (cap : Nat) : ∀ (N a m b : Nat) (f : Nat -> Nat) (w : World), F.Row f w -> a < m -> m < b -> b <= F.n -> b - a <= N -> Srt F.r f a m -> Srt F.r f m b -> Crs F.r f a m b ->
  Calls Tryz.prog 81 #[.slice (some ⟨F.blk, F.off, none⟩) F.n cap, .int .i64 (a : Int), .int .i64 (m : Int), .int .i64 (b : Int), (.func (.func 19) #[] #[.pointer (some ⟨F.kb, 0, none⟩)])] w fun e w' => e = .returned (.tuple #[]) /\ ∃ g, F.Row g w' /\ Mrg F.r f g a b := by
 intro N
 induction N with
 | zero => intro a m b f w _ h1 h2 _ h3; omega
 | succ N ih =>
  intro a m b f w R ham hmb hb hN h1 h2 hc
  rcases Nat.lt_or_ge (a + 1) m with h3 | h3
  ·rcases Nat.lt_or_ge (m + 1) b with h4 | h4
   ·by_cases h5 : (a + b) / 2 < m
    ·exact merge_hi F G N cap ih R a m b ((a + b) / 2) ((a + b) / 2 + m - b) ((a + b) / 2) h3 h4 hb hN h1 h2 hc rfl (.inl ⟨h5, by omega, rfl⟩) h5
    ·exact merge_lo F G N cap ih R a m b ((a + b) / 2) a m h3 h4 hb hN h1 h2 hc rfl (.inr ⟨by omega, rfl, rfl⟩) h5
   ·exact merge_last F G R a m b cap h3 (by omega) hb h1 hc
  ·exact merge_one F G R a m b cap (by omega) hmb hb h2 hc
def Seg (r h : Nat -> Nat) (a b : Nat) : Prop := (∀ x, a <= x -> x < b -> a <= h x /\ h x < b) /\ Srt r h a b
def Blks (r h : Nat -> Nat) (s n : Nat) : Prop := ∀ a, s ∣ a -> a < n -> Seg r h a (min n (a + s))
def First (r h : Nat -> Nat) (s n k : Nat) : Prop := (∀ a, s ∣ a -> a < k -> Seg r h a (a + s)) /\ ∀ x, k <= x -> x < n -> h x = x
def Part (r h : Nat -> Nat) (s n k : Nat) : Prop := (∀ a, 2 * s ∣ a -> a < k -> Seg r h a (min n (a + 2 * s))) /\ ∀ a, s ∣ a -> k <= a -> a < n -> Seg r h a (min n (a + s))
theorem dvd_next {s a k : Nat} (ha : s ∣ a) (hk : s ∣ k) (h : a < k) : a + s <= k := by
 obtain ⟨x, rfl⟩ := ha
 obtain ⟨y, rfl⟩ := hk
 have h1 : x < y := Nat.lt_of_mul_lt_mul_left h
 have h2 := Nat.mul_le_mul_left s (show x + 1 <= y from h1)
 rw [Nat.mul_add, Nat.mul_one] at h2
 exact h2
theorem Seg.of_eq {r f g : Nat -> Nat} {a b : Nat} (h : Seg r f a b) (hg : ∀ x, a <= x -> x < b -> g x = f x) : Seg r g a b :=
 ⟨fun x h1 h2 => by rw [hg x h1 h2]; exact h.1 x h1 h2, h.2.of_eq hg⟩
theorem first_start {r f : Nat -> Nat} {s n : Nat} (hf : ∀ x, x < n -> f x = x) : First r f s n 0 := ⟨fun a _ h => by omega, fun x _ h => hf x h⟩
theorem first_step {r h g : Nat -> Nat} {s n k : Nat} (hF : First r h s n k) (hk : s ∣ k) (hI : Ins r h g k (k + s)) : First r g s n (k + s) := by
 refine ⟨fun a ha hak => ?_, fun x h1 h2 => by rw [hI.1 x (by omega)]; exact hF.2 x (by omega) h2⟩
 rcases Nat.lt_or_ge a k with h | h
 ·have h3 := dvd_next ha hk h
  exact (hF.1 a ha h).of_eq fun x h1 h2 => hI.1 x (by omega)
 ·have h3 : a = k := by
   rcases Nat.lt_or_ge k a with h4 | h4
   ·have := dvd_next hk ha h4; omega
   ·omega
  subst h3
  exact ⟨hI.2.1, hI.2.2⟩
theorem first_end {r h g : Nat -> Nat} {s n k : Nat} (hF : First r h s n k) (hk : s ∣ k) (hkn : k <= n) (hn : n < k + s) (hI : Ins r h g k n) : Blks r g s n := by
 intro a ha han
 rcases Nat.lt_or_ge a k with h | h
 ·have h3 := dvd_next ha hk h
  rw [show min n (a + s) = a + s by omega]
  exact (hF.1 a ha h).of_eq fun x h1 h2 => hI.1 x (by omega)
 ·have h3 : a = k := by
   rcases Nat.lt_or_ge k a with h4 | h4
   ·have := dvd_next hk ha h4; omega
   ·omega
  subst h3
  rw [show min n (a + s) = n by omega]
  exact ⟨hI.2.1, hI.2.2⟩
theorem part_start {r h : Nat -> Nat} {s n : Nat} (hB : Blks r h s n) : Part r h s n 0 := ⟨fun a _ h => by omega, fun a ha _ hn => hB a ha hn⟩
theorem dvd_half {s k : Nat} (h : 2 * s ∣ k) : s ∣ k := Nat.dvd_trans (Nat.dvd_mul_left s 2) h
theorem part_ask {r h : Nat -> Nat} {s n k e : Nat} (hP : Part r h s n k) (hk : 2 * s ∣ k) (he : e = min n (k + 2 * s)) (hm : k + s < e) : Srt r h k (k + s) /\ Srt r h (k + s) e /\ Crs r h k (k + s) e := by
 have k1 := hP.2 k (dvd_half hk) (Nat.le_refl k) (by omega)
 have k2 := hP.2 (k + s) (Nat.dvd_add (dvd_half hk) (Nat.dvd_refl s)) (by omega) (by omega)
 rw [show min n (k + s) = k + s by omega] at k1
 rw [show min n (k + s + s) = e by omega] at k2
 refine ⟨k1.2, k2.2, fun x y h1 h2 h3 h4 _ => ?_⟩
 have := k1.1 x h1 h2
 have := k2.1 y h3 h4
 omega
theorem part_seg {r h g : Nat -> Nat} {s n k e : Nat} (hP : Part r h s n k) (hk : 2 * s ∣ k) (he : e = min n (k + 2 * s)) (hm : k + s < e) (hM : Mrg r h g k e) : Seg r g k e := by
 have k1 := hP.2 k (dvd_half hk) (Nat.le_refl k) (by omega)
 have k2 := hP.2 (k + s) (Nat.dvd_add (dvd_half hk) (Nat.dvd_refl s)) (by omega) (by omega)
 rw [show min n (k + s) = k + s by omega] at k1
 rw [show min n (k + s + s) = e by omega] at k2
 refine ⟨fun x h1 h2 => ?_, hM.2.2⟩
 obtain ⟨y, l1, l2, l3⟩ := hM.2.1 x h1 h2
 rw [l3]
 rcases Nat.lt_or_ge y (k + s) with h | h
 ·have := k1.1 y l1 h; omega
 ·have := k2.1 y h l2; omega
theorem part_step {r h g : Nat -> Nat} {s n k : Nat} (hP : Part r h s n k) (hs : 0 < s) (hk : 2 * s ∣ k) (hn : k + 2 * s <= n) (hM : Mrg r h g k (k + 2 * s)) : Part r g s n (k + 2 * s) := by
 have hsg := part_seg hP hk (e := k + 2 * s) (by omega) (by omega) hM
 refine ⟨fun a ha hak => ?_, fun a ha hka han => ?_⟩
 ·rcases Nat.lt_or_ge a k with h | h
  ·have h3 := dvd_next ha hk h
   exact (hP.1 a ha h).of_eq fun x h1 h2 => hM.1 x (by omega)
  ·have h3 : a = k := by
    rcases Nat.lt_or_ge k a with h4 | h4
    ·have := dvd_next hk ha h4; omega
    ·omega
   subst h3
   rw [show min n (a + 2 * s) = a + 2 * s by omega]
   exact hsg
 ·exact (hP.2 a ha (by omega) han).of_eq fun x h1 h2 => hM.1 x (by omega)
theorem part_end {r h g : Nat -> Nat} {s n k : Nat} (hP : Part r h s n k) (hk : 2 * s ∣ k) (hkn : k <= n) (hn : n < k + 2 * s) (hg : ∀ x, x < k -> g x = h x) (hS : k < n -> Seg r g k n) : Blks r g (2 * s) n := by
 intro a ha han
 rcases Nat.lt_or_ge a k with h | h
 ·have h3 := dvd_next ha hk h
  exact (hP.1 a ha h).of_eq fun x h1 h2 => hg x (by omega)
 ·have h3 : a = k := by
   rcases Nat.lt_or_ge k a with h4 | h4
   ·have := dvd_next hk ha h4; omega
   ·omega
  subst h3
  rw [show min n (a + 2 * s) = n by omega]
  exact hS han
set_option maxHeartbeats 8000000 in
set_option maxRecDepth 100000 in
theorem stable_c (F : Fam) (G : F.Good) {f : Nat -> Nat} {w : World} (R : F.Row f w) (cap : Nat) (hf : ∀ x, x < F.n -> f x = x) :
  Calls Tryz.prog 53 #[.slice (some ⟨F.blk, F.off, none⟩) F.n cap, .int .i64 (F.n : Int), (.func (.func 19) #[] #[.pointer (some ⟨F.kb, 0, none⟩)])] w fun e w' => e = .returned (.tuple #[]) /\ ∃ g, F.Row g w' /\ Srt F.r g 0 F.n := by
 have few := G.few
 have HR0 := Lib.hid R
 have HF0 := Lib.hid (first_start (r := F.r) (s := 20) hf)
 have HG := Lib.hid G
 clear R hf G
 go_enter Tryz.func53, Tryz.ntmps53
 go_wp2
 go_loopw [7, 8] (fun v1 v2 wr => ∃ (k : Nat) (h : Nat -> Nat), 20 ∣ k /\ k <= F.n /\ v1 = .int .i64 (k : Int) /\ v2 = .int .i64 ((k + 20 : Nat) : Int) /\ F.Row h wr /\ Hid (First F.r h 20 F.n k)) (fun v1 _ _ => F.n - (intOf v1).toNat)
 case atStart => exact ⟨0, f, by omega, Nat.zero_le _, rfl, rfl, HR0.out, HF0⟩
 case round =>
  obtain ⟨k, h, hk, hkn, rfl, rfl, R, HF⟩ := hrel
  clear HR0 HF0
  rcases Nat.lt_or_ge F.n (k + 20) with hlt | hge
  ·go_wp2_with fail
   refine (insertion_c F HG.out R k F.n cap hkn (Nat.le_refl _) (fun x h1 h2 => HF.out.2 x h1 h2)).mono ?_
   rintro e w2 ⟨rfl, g, R2, hI⟩
   have HB := Lib.hid (first_end HF.out hk hkn hlt hI)
   have HR2 := Lib.hid R2
   clear R R2 hI HF
   go_wp2
   go_loopw [6] (fun v1 wr => ∃ (s : Nat) (h : Nat -> Nat), 20 <= s /\ s <= 2 * F.n + 20 /\ v1 = .int .i64 (s : Int) /\ F.Row h wr /\ Hid (Blks F.r h s F.n)) (fun v1 _ => F.n - (intOf v1).toNat)
   case atStart => exact ⟨20, g, Nat.le_refl _, by omega, rfl, HR2.out, HB⟩
   case round =>
    obtain ⟨s, h, hs, hs2, rfl, R, HB⟩ := hrel
    clear HR2
    rcases Nat.lt_or_ge s F.n with hsn | hsn
    ·have HR2 := Lib.hid R
     have HP0 := Lib.hid (part_start HB.out)
     clear R HB
     go_wp2
     go_loopw [7, 8] (fun v1 v2 wr => ∃ (k : Nat) (h : Nat -> Nat), 2 * s ∣ k /\ k <= F.n /\ v1 = .int .i64 (k : Int) /\ v2 = .int .i64 ((k + 2 * s : Nat) : Int) /\ F.Row h wr /\ Hid (Part F.r h s F.n k)) (fun v1 _ _ => F.n - (intOf v1).toNat)
     case atStart => exact ⟨0, h, Nat.dvd_zero _, Nat.zero_le _, rfl, (by first | rfl | (congr 1; done) | (congr 1; omega)), HR2.out, HP0⟩
     case round =>
      obtain ⟨k, h, hk, hkn, rfl, rfl, R, HP⟩ := hrel
      clear HR2 HP0
      rcases Nat.lt_or_ge F.n (k + 2 * s) with hlt | hge
      ·by_cases hmn : k + s < F.n
       ·have hask := part_ask (e := F.n) HP.out hk (by omega) hmn
        have HA := Lib.hid hask
        clear hask
        go_wp2_with fail
        rw [show (k : Int) + (s : Int) = ((k + s : Nat) : Int) by omega]
        refine (symmerge_c F HG.out cap F.n k (k + s) F.n h _ R (by omega) hmn (Nat.le_refl _) (by omega) HA.out.1 HA.out.2.1 HA.out.2.2).mono ?_
        rintro e w3 ⟨rfl, g, R3, hM⟩
        have HS := Lib.hid (part_end (g := g) HP.out hk hkn hlt (fun x hx => hM.1 x (by omega)) (fun _ => part_seg HP.out hk (by omega) hmn hM))
        have HR3 := Lib.hid R3
        clear R R3 hM HP HA
        go_wp2
        go_roundw
        case rel => exact ⟨2 * s, g, by omega, by omega, (by first | rfl | (congr 1; done) | (congr 1; omega)), HR3.out, HS⟩
        case measure => simp [intOf]; omega
       ·have HS := Lib.hid (part_end (g := h) HP.out hk hkn hlt (fun x hx => rfl) (fun hkn2 => by
         have := HP.out.2 k (dvd_half hk) (Nat.le_refl k) hkn2
         rwa [show min F.n (k + s) = F.n by omega] at this))
        have HR3 := Lib.hid R
        clear R HP
        go_wp2
        go_roundw
        case rel => exact ⟨2 * s, h, by omega, by omega, (by first | rfl | (congr 1; done) | (congr 1; omega)), HR3.out, HS⟩
        case measure => simp [intOf]; omega
      ·have hask := part_ask (e := k + 2 * s) HP.out hk (by omega) (by omega)
       have HA := Lib.hid hask
       clear hask
       go_wp2_with fail
       rw [show (k : Int) + (s : Int) = ((k + s : Nat) : Int) by omega]
       refine (symmerge_c F HG.out cap F.n k (k + s) (k + 2 * s) h _ R (by omega) (by omega) hge (by omega) HA.out.1 HA.out.2.1 HA.out.2.2).mono ?_
       rintro e w3 ⟨rfl, g, R3, hM⟩
       have HS := Lib.hid (part_step HP.out (by omega) hk hge hM)
       have HR3 := Lib.hid R3
       have HK := Lib.hid (Nat.dvd_add hk (Nat.dvd_refl (2 * s)))
       clear R R3 hM HP HA
       go_wp2
       go_roundw
       case rel => exact ⟨k + 2 * s, g, HK.out, hge, (by first | rfl | (congr 1; done) | (congr 1; omega)), (by first | rfl | (congr 1; done) | (congr 1; omega)), HR3.out, HS⟩
       case measure => simp [intOf]; omega
    ·have hb := HB.out 0 (Nat.dvd_zero _)
     have HS : Hid (Srt F.r h 0 F.n) := Lib.hid (by
      rcases Nat.eq_zero_or_pos F.n with h0 | h0
      ·intro x y _ _ hy; omega
      ·have := (hb h0).2
       rwa [show min F.n (0 + s) = F.n by omega] at this)
     clear hb HB
     go_wp2
     go_end0
     exact ⟨rfl, h, R, HS.out⟩
  ·go_wp2_with fail
   refine (insertion_c F HG.out R k (k + 20) cap (by omega) hge (fun x h1 h2 => HF.out.2 x h1 (by omega))).mono ?_
   rintro e w2 ⟨rfl, g, R2, hI⟩
   have HF2 := Lib.hid (first_step HF.out hk hI)
   have HR2 := Lib.hid R2
   clear R R2 hI HF
   go_wp2
   go_roundw
   case rel => exact ⟨k + 20, g, by omega, hge, (by first | rfl | (congr 1; done) | (congr 1; omega)), (by first | rfl | (congr 1; done) | (congr 1; omega)), HR2.out, HF2⟩
   case measure => simp [intOf]; omega
theorem sort_c (F : Fam) (G : F.Good) {f : Nat -> Nat} {w : World} (R : F.Row f w) (cap : Nat) (hf : ∀ x, x < F.n -> f x = x) :
  Calls Tryz.prog 18 #[.slice (some ⟨F.blk, F.off, none⟩) F.n cap, (.func (.func 19) #[] #[.pointer (some ⟨F.kb, 0, none⟩)])] w fun e w' => e = .returned (.tuple #[]) /\ ∃ g, F.Row g w' /\ Srt F.r g 0 F.n := by
 have few := G.few
 have HR := Lib.hid R; have HF := Lib.hid hf; have HG := Lib.hid G
 clear R hf G
 go_enter Tryz.func18, Tryz.ntmps18
 go_wp2_with fail
 refine (stable_c F HG.out HR.out cap HF.out).mono ?_
 rintro e w2 ⟨rfl, g, R2, hS⟩
 go_wp2
 go_end0
 exact ⟨rfl, g, R2, hS⟩
end Go.Proofs.YtbnjejenejoibaaGreatDoor
namespace Go.Proofs.YtbnjejenejoibaaGreatDoor
open Go.RowKit Limb Nmb Work
set_option linter.unusedVariables false
set_option linter.unusedSimpArgs false
set_option maxHeartbeats 2000000 in
theorem spnil1_c (c : Nat) (fv : Value) (w : World) : Calls Tryz.prog 80 #[.slice none 0 c, .int .i64 0, .int .i64 0, fv] w fun e w' => e = .returned (.tuple #[]) /\ w' = w := by
 go_enter Tryz.func80, Tryz.ntmps80
 go_wp2
 refine wp_loop_rounds 1 ?_
 rw [rounds_succ]
 go_wp2
 go_end0
 exact ⟨rfl, rfl⟩
set_option maxHeartbeats 2000000 in
theorem spnil2_c (c : Nat) (fv : Value) (w : World) : Calls Tryz.prog 53 #[.slice none 0 c, .int .i64 0, fv] w fun e w' => e = .returned (.tuple #[]) /\ w' = w := by
 go_enter Tryz.func53, Tryz.ntmps53
 go_wp2
 refine wp_loop_rounds 1 ?_
 rw [rounds_succ]
 go_wp2_with (go_at_call 80; refine (spnil1_c _ _ _).mono ?_; rintro e w' ⟨rfl, rfl⟩)
 refine wp_loop_rounds 1 ?_
 rw [rounds_succ]
 go_wp2
 go_end0
 exact ⟨rfl, rfl⟩
set_option maxHeartbeats 2000000 in
theorem spnil_c (c : Nat) (fv : Value) (w : World) : Calls Tryz.prog 18 #[.slice none 0 c, fv] w fun e w' => e = .returned (.tuple #[]) /\ w' = w := by
 go_enter Tryz.func18, Tryz.ntmps18
 go_wp2_with (go_at_call 53; refine (spnil2_c _ _ _).mono ?_; rintro e w' ⟨rfl, rfl⟩)
 go_end0
 exact ⟨rfl, rfl⟩
theorem mem_upSp {sp : List SpanP} {r : RowP} {x : SpanP} (h0 : 0 < sp.length) (h : x ∈ upSp sp r) : ∃ y ∈ sp, x.val = y.val := by
 unfold upSp at h
 rcases List.mem_or_eq_of_mem_set h with h | h
 ·exact ⟨x, h, rfl⟩
 ·refine ⟨spA sp (sp.length - 1), ?_, by rw [h]⟩
  rw [<- spA_get (by omega)]
  exact List.getElem_mem _
theorem spans_val (f : Fmt) (name : ByteArray) : ∀ (l : List RowP) (sp : List SpanP) (x : SpanP), x ∈ l.foldl (spanSt f name) sp -> (∃ y ∈ sp, x.val = y.val) ∨ ∃ r ∈ l, x.val = valQ f name r
 | [], sp, x, h => .inl ⟨x, h, rfl⟩
 | r :: l, sp, x, h => by
  rw [List.foldl_cons] at h
  rcases spans_val f name l _ x h with ⟨y, hy, e⟩ | ⟨q, hq, e⟩
  ·unfold spanSt at hy
   split at hy
   ·rename_i hc
    obtain ⟨z, hz, e2⟩ := mem_upSp hc.2 hy
    exact .inl ⟨z, hz, e.trans e2⟩
   ·rcases List.mem_append.1 hy with hy | hy
    ·exact .inl ⟨y, hy, e⟩
    ·simp at hy
     subst hy
     exact .inr ⟨r, .head _, e⟩
  ·exact .inr ⟨q, .tail _ hq, e⟩
theorem spansL_val {f : Fmt} {name : ByteArray} {l : List RowP} {j : Nat} (h : j < (spansL f name l).length) : ∃ r ∈ l, (spA (spansL f name l) j).val = valQ f name r := by
 rcases spans_val f name l [] (spA (spansL f name l) j) (by rw [<- spA_get h]; exact List.getElem_mem _) with ⟨y, hy, -⟩ | h
 ·cases hy
 ·exact h
theorem valQ_size {f : Fmt} {name : ByteArray} {r : RowP} (h : ∀ s ∈ r.vals, s.size <= 9223372036854775807) : (valQ f name r).size <= 9223372036854775807 := by
 unfold valQ
 split
 ·decide
 ·exact wd_size h _
theorem range_flat (sp : List SpanP) : (List.range sp.length).flatMap (fun j => (spA sp j).rows) = sp.flatMap (·.rows) := by
 have e : (List.range sp.length).map (spA sp) = sp := by
  refine List.ext_getElem (by simp) fun i h1 h2 => ?_
  rw [List.getElem_map, List.getElem_range, spA_get h2]
 have h : sp.flatMap (·.rows) = ((List.range sp.length).map (spA sp)).flatMap (·.rows) := by rw [e]
 rw [h, List.flatMap_map]
theorem sortM_perm (nb : Bool) (sp : List SpanP) : (sortM nb sp).Perm (sp.flatMap (·.rows)) := by
 rw [<- range_flat]
 unfold sortM
 exact (List.mergeSort_perm _ _).flatMap_right _
theorem take_flat_le {α : Type} (g : Nat -> List α) (l : List Nat) (j : Nat) : ((l.take j).flatMap g).length <= (l.flatMap g).length := by
 conv => rhs; rw [<- List.take_append_drop j l, List.flatMap_append, List.length_append]
 omega
def catA {α : Type} (F : Nat -> α) (n : Nat) (K : Nat -> α) (j : Nat) : α := if j < n then F j else K (j - n)
theorem rA_app (l r : List RowP) (j : Nat) : rA (l ++ r) j = if j < l.length then rA l j else rA r (j - l.length) := by
 unfold rA
 rw [List.getD_eq_getElem?_getD, List.getD_eq_getElem?_getD, List.getD_eq_getElem?_getD, List.getElem?_append]
 split <;> rfl
theorem rowsC_app (l r : List RowP) (RA RB : Nat -> Option Addr) (RC RD : Nat -> Nat) : rowsC 2 l.length (rowV l RA RC) ++ rowsC 2 r.length (rowV r RB RD) = rowsC 2 (l.length + r.length) (rowV (l ++ r) (catA RA l.length RB) (catA RC l.length RD)) := by
 have key : ∀ m, m <= r.length -> rowsC 2 l.length (rowV l RA RC) ++ rowsC 2 m (rowV r RB RD) = rowsC 2 (l.length + m) (rowV (l ++ r) (catA RA l.length RB) (catA RC l.length RD)) := by
  intro m
  induction m with
  | zero =>
   intro _
   rw [Nat.add_zero, show rowsC 2 0 (rowV r RB RD) = [] from rfl, List.append_nil]
   refine rowsC_congr fun j hj i hi => ?_
   unfold rowV catA
   rw [rA_app, if_pos hj, if_pos hj, if_pos hj]
  | succ m ih =>
   intro h
   rw [<- Nat.add_assoc, rowsC_succ, rowsC_succ, <- List.append_assoc, ih (by omega)]
   congr 1
   refine List.map_congr_left fun i hi => ?_
   unfold rowV catA
   rw [rA_app, if_neg (by omega), if_neg (by omega), if_neg (by omega), show l.length + m - l.length = m by omega]
 exact key r.length (Nat.le_refl _)
theorem RwsI.app {w1 wr w' : World} {X X' : Option Addr} {n c c' m : Nat} {l r : List RowP} {RA RB : Nat -> Option Addr} {RC RD : Nat -> Nat} (h1 : l.length = n) (h2 : wr.ownsRow w1.heap.size 51 2 (.slice X n c) n (rowsC 2 n (rowV l RA RC))) (h3 : ∀ j, j < l.length -> ∀ wx, Below w1.heap.size w1 wx -> RowM wx (rA l j) (RA j) (RC j)) (h4 : Below w1.heap.size w1 wr) (hm : r.length = m)
  (hr : ∀ j, j < r.length -> ∀ wx, Below w1.heap.size w1 wx -> RowM wx (rA r j) (RB j) (RD j))
  (ho : w'.ownsRow w1.heap.size 51 2 (.slice X' (n + m) c') (n + m) (rowsC 2 n (rowV l RA RC) ++ rowsC 2 m (rowV r RB RD))) (hg : wr.grownBy w' (Value.slice X n c).ownBlock) : RwsI w1 w' X' (n + m) c' (l ++ r) := by
 subst h1 hm
 refine ⟨catA RA l.length RB, catA RC l.length RD, by simp, by rw [<- rowsC_app]; exact ho, fun j hj wx hx => ?_, h4.grown hg h4.size (fun j hj => (h2.lt j hj).1)⟩
 unfold catA
 rw [rA_app]
 by_cases hj2 : j < l.length
 ·rw [if_pos hj2, if_pos hj2, if_pos hj2]
  exact h3 j hj2 wx hx
 ·rw [if_neg hj2, if_neg hj2, if_neg hj2]
  exact hr _ (by rw [List.length_append] at hj; omega) wx hx
theorem rws_src {w : World} {A : Option Addr} {n : Nat} {V : Nat -> Nat -> Value} (h : Rws w A 2 n V) : 0 < n -> ∃ b off, A = some ⟨b, off, none⟩ /\ ∀ j u, (rowsC 2 n V)[j]? = some u -> w.cell? ⟨b, off + j, none⟩ = some u := by
 intro hp
 obtain ⟨b, off, e, hb, hc⟩ := h hp
 refine ⟨b, off, e, fun j u hj => ?_⟩
 have hlt : j < n * 2 := by
  rcases Nat.lt_or_ge j (n * 2) with h | h
  ·exact h
  ·rw [List.getElem?_eq_none (by rw [rowsC_len]; exact h)] at hj; cases hj
 have hj2 : j / 2 * 2 + j % 2 = j := by omega
 have h1 := rowsC_at (k := 2) (f := V) (n := n) (j := j / 2) (i := j % 2) (by omega) (by omega)
 rw [hj2] at h1
 have h2 := hc (j / 2) (by omega) (j % 2) (by omega)
 rw [Nat.add_assoc, hj2] at h2
 rw [Option.some.inj (hj.symm.trans h1)]
 exact h2
theorem RowsM.dropAt {w : World} {L X : Option Addr} {rs : List RowP} {RA : Nat -> Option Addr} {RC : Nat -> Nat} (h : RowsM w L rs RA RC) (n : Nat) (hX : n < rs.length -> ∀ b off, L = some ⟨b, off, none⟩ -> X = some ⟨b, off + n * 2, none⟩) : RowsM w X (rs.drop n) (fun j => RA (n + j)) (fun j => RC (n + j)) := by
 refine ⟨fun hn => ?_, fun j hj => ?_, ?_⟩
 ·rw [List.length_drop] at hn
  obtain ⟨b, off, e, hb, hc⟩ := h.rows (by omega)
  refine ⟨b, off + n * 2, hX (by omega) b off e, hb, fun j hj i hi => ?_⟩
  rw [List.length_drop] at hj
  have h1 := hc (n + j) (by omega) i hi
  rw [show off + (n + j) * 2 + i = off + n * 2 + j * 2 + i by omega] at h1
  rw [h1]
  unfold rowV
  rw [rA_drop]
 ·rw [List.length_drop] at hj
  rw [rA_drop]
  exact h.each (n + j) (by omega)
 ·rw [List.length_drop]
  have := h.len
  omega
theorem RwsI.srcs {w1 wr : World} {X : Option Addr} {n c : Nat} {l : List RowP} (h : RwsI w1 wr X n c l) : ∃ RB RD, l.length = n /\ ∀ wx, Below wr.heap.size wr wx -> RowsM wx X l RB RD := by
 have hl := h.len
 obtain ⟨RB, RD, hM⟩ := h.rowsM
 exact ⟨RB, RD, hl, fun wx hb => hM.below hb⟩
end Go.Proofs.YtbnjejenejoibaaGreatDoor
