
/- The walk of the stable sort, whole. -/
import Derived.Test.YtegabimiegdcjaaS7
namespace Go.Proofs.Ytegabimiegdcjaa
open Go.RowKit Limb Stab
set_option linter.unusedVariables false
set_option linter.unusedSimpArgs false

theorem symmerge_c (F : Fam) (G : F.Good) (cap : Nat) : ∀ (N a m b : Nat) (f : Nat → Nat) (w : World), F.Row f w → a < m → m < b → b ≤ F.n → b - a ≤ N → Srt F.r f a m → Srt F.r f m b → Crs F.r f a m b →
    Calls Try.prog 80 #[.slice (some ⟨F.blk, F.off, none⟩) F.n cap, .int .i64 (a : Int), .int .i64 (m : Int), .int .i64 (b : Int), (.func (.func 56) #[] #[])] w fun e w' => e = .returned (.tuple #[]) ∧ ∃ g, F.Row g w' ∧ Mrg F.r f g a b := by
  intro N
  induction N with
  | zero => intro a m b f w _ h1 h2 _ h3; omega
  | succ N ih =>
    intro a m b f w R ham hmb hb hN h1 h2 hc
    rcases Nat.lt_or_ge (a + 1) m with h3 | h3
    · rcases Nat.lt_or_ge (m + 1) b with h4 | h4
      · by_cases h5 : (a + b) / 2 < m
        · exact merge_hi F G N cap ih R a m b ((a + b) / 2) ((a + b) / 2 + m - b) ((a + b) / 2) h3 h4 hb hN h1 h2 hc rfl (.inl ⟨h5, by omega, rfl⟩) h5
        · exact merge_lo F G N cap ih R a m b ((a + b) / 2) a m h3 h4 hb hN h1 h2 hc rfl (.inr ⟨by omega, rfl, rfl⟩) h5
      · exact merge_last F G R a m b cap h3 (by omega) hb h1 hc
    · exact merge_one F G R a m b cap (by omega) hmb hb h2 hc

/-- A run of places that holds its own shares, in order. -/
def Seg (r h : Nat → Nat) (a b : Nat) : Prop := (∀ x, a ≤ x → x < b → a ≤ h x ∧ h x < b) ∧ Srt r h a b
def Blks (r h : Nat → Nat) (s n : Nat) : Prop := ∀ a, s ∣ a → a < n → Seg r h a (min n (a + s))
/-- Blocks of s are in order below k, the rest is as at the start. -/
def First (r h : Nat → Nat) (s n k : Nat) : Prop := (∀ a, s ∣ a → a < k → Seg r h a (a + s)) ∧ ∀ x, k ≤ x → x < n → h x = x
/-- Below k blocks of 2 s are in order, from k on blocks of s. -/
def Part (r h : Nat → Nat) (s n k : Nat) : Prop := (∀ a, 2 * s ∣ a → a < k → Seg r h a (min n (a + 2 * s))) ∧ ∀ a, s ∣ a → k ≤ a → a < n → Seg r h a (min n (a + s))

theorem dvd_next {s a k : Nat} (ha : s ∣ a) (hk : s ∣ k) (h : a < k) : a + s ≤ k := by
  obtain ⟨x, rfl⟩ := ha
  obtain ⟨y, rfl⟩ := hk
  have h1 : x < y := Nat.lt_of_mul_lt_mul_left h
  have h2 := Nat.mul_le_mul_left s (show x + 1 ≤ y from h1)
  rw [Nat.mul_add, Nat.mul_one] at h2
  exact h2
theorem Seg.of_eq {r f g : Nat → Nat} {a b : Nat} (h : Seg r f a b) (hg : ∀ x, a ≤ x → x < b → g x = f x) : Seg r g a b :=
  ⟨fun x h1 h2 => by rw [hg x h1 h2]; exact h.1 x h1 h2, h.2.of_eq hg⟩
theorem first_start {r f : Nat → Nat} {s n : Nat} (hf : ∀ x, x < n → f x = x) : First r f s n 0 := ⟨fun a _ h => by omega, fun x _ h => hf x h⟩
theorem first_step {r h g : Nat → Nat} {s n k : Nat} (hF : First r h s n k) (hk : s ∣ k) (hI : Ins r h g k (k + s)) : First r g s n (k + s) := by
  refine ⟨fun a ha hak => ?_, fun x h1 h2 => by rw [hI.1 x (by omega)]; exact hF.2 x (by omega) h2⟩
  rcases Nat.lt_or_ge a k with h | h
  · have h3 := dvd_next ha hk h
    exact (hF.1 a ha h).of_eq fun x h1 h2 => hI.1 x (by omega)
  · have h3 : a = k := by
      rcases Nat.lt_or_ge k a with h4 | h4
      · have := dvd_next hk ha h4; omega
      · omega
    subst h3
    exact ⟨hI.2.1, hI.2.2⟩
theorem first_end {r h g : Nat → Nat} {s n k : Nat} (hF : First r h s n k) (hk : s ∣ k) (hkn : k ≤ n) (hn : n < k + s) (hI : Ins r h g k n) : Blks r g s n := by
  intro a ha han
  rcases Nat.lt_or_ge a k with h | h
  · have h3 := dvd_next ha hk h
    rw [show min n (a + s) = a + s by omega]
    exact (hF.1 a ha h).of_eq fun x h1 h2 => hI.1 x (by omega)
  · have h3 : a = k := by
      rcases Nat.lt_or_ge k a with h4 | h4
      · have := dvd_next hk ha h4; omega
      · omega
    subst h3
    rw [show min n (a + s) = n by omega]
    exact ⟨hI.2.1, hI.2.2⟩
theorem part_start {r h : Nat → Nat} {s n : Nat} (hB : Blks r h s n) : Part r h s n 0 := ⟨fun a _ h => by omega, fun a ha _ hn => hB a ha hn⟩
theorem dvd_half {s k : Nat} (h : 2 * s ∣ k) : s ∣ k := Nat.dvd_trans (Nat.dvd_mul_left s 2) h
/-- What symMerge asks of the two runs at k. -/
theorem part_ask {r h : Nat → Nat} {s n k e : Nat} (hP : Part r h s n k) (hk : 2 * s ∣ k) (he : e = min n (k + 2 * s)) (hm : k + s < e) : Srt r h k (k + s) ∧ Srt r h (k + s) e ∧ Crs r h k (k + s) e := by
  have k1 := hP.2 k (dvd_half hk) (Nat.le_refl k) (by omega)
  have k2 := hP.2 (k + s) (Nat.dvd_add (dvd_half hk) (Nat.dvd_refl s)) (by omega) (by omega)
  rw [show min n (k + s) = k + s by omega] at k1
  rw [show min n (k + s + s) = e by omega] at k2
  refine ⟨k1.2, k2.2, fun x y h1 h2 h3 h4 _ => ?_⟩
  have := k1.1 x h1 h2
  have := k2.1 y h3 h4
  omega
theorem part_seg {r h g : Nat → Nat} {s n k e : Nat} (hP : Part r h s n k) (hk : 2 * s ∣ k) (he : e = min n (k + 2 * s)) (hm : k + s < e) (hM : Mrg r h g k e) : Seg r g k e := by
  have k1 := hP.2 k (dvd_half hk) (Nat.le_refl k) (by omega)
  have k2 := hP.2 (k + s) (Nat.dvd_add (dvd_half hk) (Nat.dvd_refl s)) (by omega) (by omega)
  rw [show min n (k + s) = k + s by omega] at k1
  rw [show min n (k + s + s) = e by omega] at k2
  refine ⟨fun x h1 h2 => ?_, hM.2.2⟩
  obtain ⟨y, l1, l2, l3⟩ := hM.2.1 x h1 h2
  rw [l3]
  rcases Nat.lt_or_ge y (k + s) with h | h
  · have := k1.1 y l1 h; omega
  · have := k2.1 y h l2; omega
theorem part_step {r h g : Nat → Nat} {s n k : Nat} (hP : Part r h s n k) (hs : 0 < s) (hk : 2 * s ∣ k) (hn : k + 2 * s ≤ n) (hM : Mrg r h g k (k + 2 * s)) : Part r g s n (k + 2 * s) := by
  have hsg := part_seg hP hk (e := k + 2 * s) (by omega) (by omega) hM
  refine ⟨fun a ha hak => ?_, fun a ha hka han => ?_⟩
  · rcases Nat.lt_or_ge a k with h | h
    · have h3 := dvd_next ha hk h
      exact (hP.1 a ha h).of_eq fun x h1 h2 => hM.1 x (by omega)
    · have h3 : a = k := by
        rcases Nat.lt_or_ge k a with h4 | h4
        · have := dvd_next hk ha h4; omega
        · omega
      subst h3
      rw [show min n (a + 2 * s) = a + 2 * s by omega]
      exact hsg
  · exact (hP.2 a ha (by omega) han).of_eq fun x h1 h2 => hM.1 x (by omega)
theorem part_end {r h g : Nat → Nat} {s n k : Nat} (hP : Part r h s n k) (hk : 2 * s ∣ k) (hkn : k ≤ n) (hn : n < k + 2 * s) (hg : ∀ x, x < k → g x = h x) (hS : k < n → Seg r g k n) : Blks r g (2 * s) n := by
  intro a ha han
  rcases Nat.lt_or_ge a k with h | h
  · have h3 := dvd_next ha hk h
    exact (hP.1 a ha h).of_eq fun x h1 h2 => hg x (by omega)
  · have h3 : a = k := by
      rcases Nat.lt_or_ge k a with h4 | h4
      · have := dvd_next hk ha h4; omega
      · omega
    subst h3
    rw [show min n (a + 2 * s) = n by omega]
    exact hS han

set_option maxHeartbeats 8000000 in
set_option maxRecDepth 100000 in
theorem stable_c (F : Fam) (G : F.Good) {f : Nat → Nat} {w : World} (R : F.Row f w) (cap : Nat) (hf : ∀ x, x < F.n → f x = x) :
    Calls Try.prog 75 #[.slice (some ⟨F.blk, F.off, none⟩) F.n cap, .int .i64 (F.n : Int), (.func (.func 56) #[] #[])] w fun e w' => e = .returned (.tuple #[]) ∧ ∃ g, F.Row g w' ∧ Srt F.r g 0 F.n := by
  have few := G.few
  have HR0 := Lib.hid R
  have HF0 := Lib.hid (first_start (r := F.r) (s := 20) hf)
  have HG := Lib.hid G
  clear R hf G
  go_enter Try.func75, Try.ntmps75
  go_wp2
  go_loopw [7, 8] (fun v1 v2 wr => ∃ (k : Nat) (h : Nat → Nat), 20 ∣ k ∧ k ≤ F.n ∧ v1 = .int .i64 (k : Int) ∧ v2 = .int .i64 ((k + 20 : Nat) : Int) ∧ F.Row h wr ∧ Hid (First F.r h 20 F.n k)) (fun v1 _ _ => F.n - (intOf v1).toNat)
  case atStart => exact ⟨0, f, by omega, Nat.zero_le _, rfl, rfl, HR0.out, HF0⟩
  case round =>
    obtain ⟨k, h, hk, hkn, rfl, rfl, R, HF⟩ := hrel
    clear HR0 HF0
    rcases Nat.lt_or_ge F.n (k + 20) with hlt | hge
    · go_wp2_with fail
      refine (insertion_c F HG.out R k F.n cap hkn (Nat.le_refl _) (fun x h1 h2 => HF.out.2 x h1 h2)).mono ?_
      rintro e w2 ⟨rfl, g, R2, hI⟩
      have HB := Lib.hid (first_end HF.out hk hkn hlt hI)
      have HR2 := Lib.hid R2
      clear R R2 hI HF
      go_wp2
      go_loopw [6] (fun v1 wr => ∃ (s : Nat) (h : Nat → Nat), 20 ≤ s ∧ s ≤ 2000 ∧ v1 = .int .i64 (s : Int) ∧ F.Row h wr ∧ Hid (Blks F.r h s F.n)) (fun v1 _ => F.n - (intOf v1).toNat)
      case atStart => exact ⟨20, g, Nat.le_refl _, by omega, rfl, HR2.out, HB⟩
      case round =>
        obtain ⟨s, h, hs, hs2, rfl, R, HB⟩ := hrel
        clear HR2
        rcases Nat.lt_or_ge s F.n with hsn | hsn
        · have HR2 := Lib.hid R
          have HP0 := Lib.hid (part_start HB.out)
          clear R HB
          go_wp2
          go_loopw [7, 8] (fun v1 v2 wr => ∃ (k : Nat) (h : Nat → Nat), 2 * s ∣ k ∧ k ≤ F.n ∧ v1 = .int .i64 (k : Int) ∧ v2 = .int .i64 ((k + 2 * s : Nat) : Int) ∧ F.Row h wr ∧ Hid (Part F.r h s F.n k)) (fun v1 _ _ => F.n - (intOf v1).toNat)
          case atStart => exact ⟨0, h, Nat.dvd_zero _, Nat.zero_le _, rfl, (by first | rfl | (congr 1; done) | (congr 1; omega)), HR2.out, HP0⟩
          case round =>
            obtain ⟨k, h, hk, hkn, rfl, rfl, R, HP⟩ := hrel
            clear HR2 HP0
            rcases Nat.lt_or_ge F.n (k + 2 * s) with hlt | hge
            · by_cases hmn : k + s < F.n
              · have hask := part_ask (e := F.n) HP.out hk (by omega) hmn
                have HA := Lib.hid hask
                clear hask
                go_wp2_with fail
                rw [show (k : Int) + (s : Int) = ((k + s : Nat) : Int) by omega]
                refine (symmerge_c F HG.out cap F.n k (k + s) F.n h _ R (by omega) hmn (Nat.le_refl _) (by omega) HA.out.1 HA.out.2.1 HA.out.2.2).mono ?_
                rintro e w3 ⟨rfl, g, R3, hM⟩
                have HS := Lib.hid (part_end (g := g) HP.out hk hkn hlt (fun x hx => hM.1 x (by omega)) (fun _ => part_seg HP.out hk (by omega) hmn hM))
                have HR3 := Lib.hid R3
                clear R R3 hM HP HA
                go_wp2
                go_roundw
                case rel => exact ⟨2 * s, g, by omega, by omega, (by first | rfl | (congr 1; done) | (congr 1; omega)), HR3.out, HS⟩
                case measure => simp [intOf]; omega
              · have HS := Lib.hid (part_end (g := h) HP.out hk hkn hlt (fun x hx => rfl) (fun hkn2 => by
                  have := HP.out.2 k (dvd_half hk) (Nat.le_refl k) hkn2
                  rwa [show min F.n (k + s) = F.n by omega] at this))
                have HR3 := Lib.hid R
                clear R HP
                go_wp2
                go_roundw
                case rel => exact ⟨2 * s, h, by omega, by omega, (by first | rfl | (congr 1; done) | (congr 1; omega)), HR3.out, HS⟩
                case measure => simp [intOf]; omega
            · have hask := part_ask (e := k + 2 * s) HP.out hk (by omega) (by omega)
              have HA := Lib.hid hask
              clear hask
              go_wp2_with fail
              rw [show (k : Int) + (s : Int) = ((k + s : Nat) : Int) by omega]
              refine (symmerge_c F HG.out cap F.n k (k + s) (k + 2 * s) h _ R (by omega) (by omega) hge (by omega) HA.out.1 HA.out.2.1 HA.out.2.2).mono ?_
              rintro e w3 ⟨rfl, g, R3, hM⟩
              have HS := Lib.hid (part_step HP.out (by omega) hk hge hM)
              have HR3 := Lib.hid R3
              have HK := Lib.hid (Nat.dvd_add hk (Nat.dvd_refl (2 * s)))
              clear R R3 hM HP HA
              go_wp2
              go_roundw
              case rel => exact ⟨k + 2 * s, g, HK.out, hge, (by first | rfl | (congr 1; done) | (congr 1; omega)), (by first | rfl | (congr 1; done) | (congr 1; omega)), HR3.out, HS⟩
              case measure => simp [intOf]; omega
        · have hb := HB.out 0 (Nat.dvd_zero _)
          have HS : Hid (Srt F.r h 0 F.n) := Lib.hid (by
            rcases Nat.eq_zero_or_pos F.n with h0 | h0
            · intro x y _ _ hy; omega
            · have := (hb h0).2
              rwa [show min F.n (0 + s) = F.n by omega] at this)
          clear hb HB
          go_wp2
          go_end0
          exact ⟨rfl, h, R, HS.out⟩
    · go_wp2_with fail
      refine (insertion_c F HG.out R k (k + 20) cap (by omega) hge (fun x h1 h2 => HF.out.2 x h1 (by omega))).mono ?_
      rintro e w2 ⟨rfl, g, R2, hI⟩
      have HF2 := Lib.hid (first_step HF.out hk hI)
      have HR2 := Lib.hid R2
      clear R R2 hI HF
      go_wp2
      go_roundw
      case rel => exact ⟨k + 20, g, by omega, hge, (by first | rfl | (congr 1; done) | (congr 1; omega)), (by first | rfl | (congr 1; done) | (congr 1; omega)), HR2.out, HF2⟩
      case measure => simp [intOf]; omega

theorem sort_c (F : Fam) (G : F.Good) {f : Nat → Nat} {w : World} (R : F.Row f w) (cap : Nat) (hf : ∀ x, x < F.n → f x = x) :
    Calls Try.prog 55 #[.slice (some ⟨F.blk, F.off, none⟩) F.n cap, (.func (.func 56) #[] #[])] w fun e w' => e = .returned (.tuple #[]) ∧ ∃ g, F.Row g w' ∧ Srt F.r g 0 F.n := by
  have few := G.few
  have HR := Lib.hid R; have HF := Lib.hid hf; have HG := Lib.hid G
  clear R hf G
  go_enter Try.func55, Try.ntmps55
  go_wp2_with fail
  refine (stable_c F HG.out HR.out cap HF.out).mono ?_
  rintro e w2 ⟨rfl, g, R2, hS⟩
  go_wp2
  go_end0
  exact ⟨rfl, g, R2, hS⟩

end Go.Proofs.Ytegabimiegdcjaa
