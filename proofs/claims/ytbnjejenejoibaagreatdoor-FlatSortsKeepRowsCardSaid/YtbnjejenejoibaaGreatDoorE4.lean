
/- The walks of days and dates: padded, and the text of a day, in the program. -/
import Derived.Test.YtbnjejenejoibaaGreatDoorF3
import Derived.Test.YtbnjejenejoibaaGreatDoorShelf
import Derived.Lib.AppendIntMem
import Derived.Lib.ItoaLen
import Derived.Deep.QuietTactic
import Derived.BigQuiet
import Derived.Lib.Repeat
namespace Go.Proofs.YtbnjejenejoibaaGreatDoor
open Go.RowKit Limb Work
set_option linter.unusedVariables false
set_option linter.unusedSimpArgs false
def padN (n k : Nat) : List UInt8 := List.replicate (k - (Lib.decDigits n).length) 48 ++ Lib.decDigits n
def padS (n : Int) (k : Nat) : ByteArray := ⟨(padN n.toNat k).toArray⟩
theorem nd_le : ∀ (k u : Nat), u < 10 ^ (k + 1) -> Lib.nDigits u <= k + 1
 | 0, u, h => by rw [Lib.nDigits_small (by simpa using h)]; exact Nat.le_refl _
 | k + 1, u, h => by
  by_cases h1 : u < 10
  ·rw [Lib.nDigits_small h1]; omega
  ·rw [Lib.nDigits_big h1]
   have := nd_le k (u / 10) (by rw [Nat.pow_succ] at h; omega)
   omega
theorem dec_len {n k : Nat} (hk : 1 <= k) (h : n < 10 ^ k) : 1 <= (Lib.decDigits n).length /\ (Lib.decDigits n).length <= k := by
 rw [Lib.decDigits_length]
 refine ⟨Lib.nDigits_pos n, ?_⟩
 have := nd_le (k - 1) n (by rw [show k - 1 + 1 = k by omega]; exact h)
 omega
theorem padN_len {n k : Nat} (hk : 1 <= k) (h : n < 10 ^ k) : (padN n k).length = k := by
 have := dec_len hk h
 unfold padN
 simp
 omega
theorem padS_size {n : Int} {k : Nat} (hk : 1 <= k) (h : n.toNat < 10 ^ k) : (padS n k).size = k := by
 have := padN_len hk h
 unfold padS
 show (padN n.toNat k).toArray.size = k
 simpa using this
theorem padS_one {n : Int} (h : 0 <= n /\ n <= 9) : padS n 1 = (⟨(Lib.decDigits n.toNat).toArray⟩ : ByteArray) := by
 have := dec_len (n := n.toNat) (k := 1) (by decide) (by omega)
 unfold padS padN
 rw [show 1 - (Lib.decDigits n.toNat).length = 0 by omega]
 rfl
def Tab (w : World) : Prop := Lib.TabIs Tryz.prog w "internal/strconv.uint64pow10" .u64 Lib.pow10Tab
theorem Tab.below {w w' : World} (h : Tab w) (hb : Below w.heap.size w w') : Tab w' := Lib.tabBelow_of_tabIs h w' hb
theorem itoa_c (n : Int) (w : World) (h0 : 0 <= n) (h1 : n <= 9223372036854775807) (ht : Tab w) :
  Calls Tryz.prog 182 #[.int .i64 n] w fun e w' => e = .returned (.string ⟨(Lib.decDigits n.toNat).toArray⟩) /\ Below w.heap.size w w' := by
 refine (Tryz.strconv_Itoa n (by omega) h1 w ht).mono ?_
 rintro e w' ⟨rfl, k, os, rfl⟩
 refine ⟨?_, Lib.below_grow _ w (Nat.le_refl _) k os⟩
 unfold Lib.itoa
 rw [if_neg (by omega)]
def RetS (s : ByteArray) (w : World) (e : Ending) (w' : World) : Prop := e = .returned (.string s) /\ Below w.heap.size w w'
theorem rep_one (c : UInt8) : ∀ n, Lib.repeatL [c] n = List.replicate n c
 | 0 => rfl
 | n + 1 => by rw [Lib.repeatL, rep_one c n, List.replicate_succ]; rfl
set_option maxHeartbeats 1000000 in
set_option maxRecDepth 100000 in
theorem padded_c (n : Int) (k : Nat) (K : Int) (w : World) (hK : K = (k : Int)) (h0 : 0 <= n) (hk0 : 1 <= k) (hk : k <= 4) (hn : n.toNat < 10 ^ k) (ht : Tab w) :
  Calls Tryz.prog 246 #[.int .i64 n, .int .i64 K] w (RetS (padS n k) w) := by
 have hnb : n <= 9999 := by
  have : 10 ^ k <= 10 ^ 4 := Nat.pow_le_pow_right (by decide) hk
  omega
 have hl := dec_len hk0 hn
 obtain ⟨s, hs⟩ : ∃ s : ByteArray, (⟨(Lib.decDigits n.toNat).toArray⟩ : ByteArray) = s := ⟨_, rfl⟩
 have hsl : s.data.toList = Lib.decDigits n.toNat := by rw [<- hs]
 have hss : s.size = (Lib.decDigits n.toNat).length := by rw [<- hsl]; simp
 rw [<- hss] at hl
 obtain ⟨c, hc⟩ : ∃ c : Nat, k - s.size = c := ⟨_, rfl⟩
 have HREP := Lib.hid (Tryz.strings_Repeat ⟨#[48]⟩ c)
 have HP := Lib.hid (show padS n k = (⟨(Lib.repeatL [48] c).toArray⟩ : ByteArray) ++ s by
  unfold padS padN
  rw [<- hss, hc, <- hsl, rep_one]
  apply ByteArray.ext
  rw [ByteArray.data_append]
  simp)
 have hI := Lib.hid (fun w => itoa_c n w h0 (by omega)); rw [hs] at hI
 have E1 := Lib.hid (show K - (s.size : Int) = ((c : Nat) : Int) by omega)
 obtain ⟨r, hr⟩ : ∃ r : ByteArray, (⟨(Lib.repeatL [48] c).toArray⟩ : ByteArray) = r := ⟨_, rfl⟩
 have hrs : r.size = c := by rw [<- hr, rep_one]; show (List.replicate c (48 : UInt8)).toArray.size = c; simp
 have HR := Lib.hid hr
 have hcond : ¬ 9223372036854775807 < r.size + s.size := by omega
 have hK4 : 1 <= K /\ K <= 4 := by omega
 have hc4 : c <= 4 := by omega
 clear hc hss hsl hs hr hrs hK hn hk hk0
 go_enter Tryz.func246, Tryz.ntmps246
 go_wp2_with fail
 refine (hI.out _ ht).mono ?_
 rintro e w1 ⟨rfl, hb1⟩
 go_wp2_with fail
 rw [E1.out]
 refine (HREP.out _ (by omega) (by show 1 * c <= _; omega)).mono ?_
 rintro e w2 ⟨rfl, hb2⟩
 rw [show (⟨(Lib.repeatL (⟨#[48]⟩ : ByteArray).data.toList c).toArray⟩ : ByteArray) = r from HR.out]
 go_wp2
 go_ret
 exact ⟨congrArg (fun x => Ending.returned (.string x)) (show r ++ s = padS n k by rw [HP.out, HR.out]), below_then hb2 hb1 hb1.size⟩
def formB (f : Int) : Bool := decide (1 <= f /\ f <= 5)
theorem isform_c (f : Int) (w : World) : Calls Tryz.prog 239 #[.int .i64 f] w fun e w' => w = w' /\ e = .returned (.bool (formB f)) := by
 by_cases h : 1 <= f /\ f <= 5
 ·rw [show formB f = true from decide_eq_true h]
  go_enter Tryz.func239, Tryz.ntmps239
  go_wp2_with (go_at_call 104; refine (out_no _ _ _ _ h).mono ?_; rintro e w1 ⟨rfl, rfl⟩)
  go_ret
  exact ⟨rfl, rfl⟩
 ·rw [show formB f = false from decide_eq_false h]
  go_enter Tryz.func239, Tryz.ntmps239
  go_wp2_with (go_at_call 104; refine (out_yes _ _ _ _ h).mono ?_; rintro e w1 ⟨rfl, rfl⟩)
  go_ret
  exact ⟨rfl, rfl⟩
def dtS (form day y m d z : Int) : ByteArray :=
 if form = 1 then padS y 4 ++ padS m 2 ++ padS d 2
 else if form = 2 then padS (y % 100) 2 ++ padS m 2 ++ padS d 2
 else if form = 3 then padS d 2 ++ padS m 2 ++ padS y 4
 else if form = 4 then padS y 4 ++ ⟨#[45]⟩ ++ padS m 2 ++ ⟨#[45]⟩ ++ padS d 2
 else padS z 4 ++ padS (wk day z) 2 ++ padS ((day - 1) % 7 + 1) 1
def RetSF (s : ByteArray) (f : Int) (w : World) (e : Ending) (w' : World) : Prop := e = .returned (.tuple #[.string s, .int .i64 f]) /\ Below w.heap.size w w'
theorem RetSF.eq {s t : ByteArray} {f : Int} {w : World} {e : Ending} {w' : World} (h : RetSF s f w e w') (he : s = t) : RetSF t f w e w' := he ▸ h
set_option maxHeartbeats 2000000 in
set_option maxRecDepth 100000 in
theorem DayText_ok (day form y m d z zm zd : Int) (w : World) (h : formB form = true) (h1 : 1 <= day) (h2 : day <= 3652059) (hD : DateIs day y m d) (hZ : DateIs (thu day) z zm zd) (ht : Tab w) :
  Calls Tryz.prog 202 #[.int .i64 day, .int .i64 form] w (RetSF (dtS form day y m d z) 0 w) := by
 obtain ⟨⟨y1, y2⟩, ⟨m1, m2⟩, ⟨d1, d2⟩, -, -, -⟩ := hD.facts
 obtain ⟨⟨z1, z2⟩, -, -, -, b1, b2⟩ := hZ.facts
 have hw := wk_bd b1 b2
 have H := Lib.hid h; have HD := Lib.hid (dayB_mk ⟨h1, h2⟩)
 have HDI := Lib.hid hD; have HZ := Lib.hid hZ
 have hform := of_decide_eq_true h
 clear h hD hZ b1 b2
 have hf : form = 1 ∨ form = 2 ∨ form = 3 ∨ form = 4 ∨ form = 5 := by omega
 clear hform
 rcases hf with rfl | rfl | rfl | rfl | rfl
 -- FORMS
 ·skip
  have s0 : (padS y 4).size = 4 := padS_size (by omega) (by omega)
  have s1 : (padS m 2).size = 2 := padS_size (by omega) (by omega)
  have s2 : (padS d 2).size = 2 := padS_size (by omega) (by omega)
  have k1 : ¬ 9223372036854775807 < (padS y 4).size + (padS m 2).size := by rw [s0, s1]; decide
  have k2 : ¬ 9223372036854775807 < (padS y 4 ++ padS m 2).size + (padS d 2).size := by rw [ByteArray.size_append, s0, s1, s2]; decide
  clear s0 s1 s2
  go_enter Tryz.func202, Tryz.ntmps202
  go_wp2_with fail
  refine (isform_c _ _).mono ?_
  rw [H.out]
  rintro e w1 ⟨rfl, rfl⟩
  go_wp2_with fail
  refine (isday_c _ _).mono ?_
  rw [HD.out]
  rintro e w1 ⟨rfl, rfl⟩
  go_wp2_with fail
  refine (dateof_c day y m d _ h1 h2 HDI.out).mono ?_
  rintro e w1 ⟨rfl, hb1⟩
  go_wp2_with fail
  refine (padded_c y 4 _ _ rfl (by omega) (by decide) (by decide) (by omega) (ht.below hb1)).mono ?_
  rintro e w2 ⟨rfl, hc0⟩
  have hd0 := below_then hc0 hb1 hb1.size
  go_wp2_with fail
  refine (padded_c m 2 _ _ rfl (by omega) (by decide) (by decide) (by omega) (ht.below hd0)).mono ?_
  rintro e w3 ⟨rfl, hc1⟩
  have hd1 := below_then hc1 hd0 hd0.size
  go_wp2_with fail
  refine (padded_c d 2 _ _ rfl (by omega) (by decide) (by decide) (by omega) (ht.below hd1)).mono ?_
  rintro e w4 ⟨rfl, hc2⟩
  have hd2 := below_then hc2 hd1 hd1.size
  go_wp2
  go_ret2
  exact ⟨rfl, hd2⟩
 ·skip
  have s0 : (padS (y % 100) 2).size = 2 := padS_size (by omega) (by omega)
  have s1 : (padS m 2).size = 2 := padS_size (by omega) (by omega)
  have s2 : (padS d 2).size = 2 := padS_size (by omega) (by omega)
  have k1 : ¬ 9223372036854775807 < (padS (y % 100) 2).size + (padS m 2).size := by rw [s0, s1]; decide
  have k2 : ¬ 9223372036854775807 < (padS (y % 100) 2 ++ padS m 2).size + (padS d 2).size := by rw [ByteArray.size_append, s0, s1, s2]; decide
  clear s0 s1 s2
  go_enter Tryz.func202, Tryz.ntmps202
  go_wp2_with fail
  refine (isform_c _ _).mono ?_
  rw [H.out]
  rintro e w1 ⟨rfl, rfl⟩
  go_wp2_with fail
  refine (isday_c _ _).mono ?_
  rw [HD.out]
  rintro e w1 ⟨rfl, rfl⟩
  go_wp2_with fail
  refine (dateof_c day y m d _ h1 h2 HDI.out).mono ?_
  rintro e w1 ⟨rfl, hb1⟩
  go_wp2_with fail
  refine (padded_c (y % 100) 2 _ _ rfl (by omega) (by decide) (by decide) (by omega) (ht.below hb1)).mono ?_
  rintro e w2 ⟨rfl, hc0⟩
  have hd0 := below_then hc0 hb1 hb1.size
  go_wp2_with fail
  refine (padded_c m 2 _ _ rfl (by omega) (by decide) (by decide) (by omega) (ht.below hd0)).mono ?_
  rintro e w3 ⟨rfl, hc1⟩
  have hd1 := below_then hc1 hd0 hd0.size
  go_wp2_with fail
  refine (padded_c d 2 _ _ rfl (by omega) (by decide) (by decide) (by omega) (ht.below hd1)).mono ?_
  rintro e w4 ⟨rfl, hc2⟩
  have hd2 := below_then hc2 hd1 hd1.size
  go_wp2
  go_ret2
  exact ⟨rfl, hd2⟩
 ·skip
  have s0 : (padS d 2).size = 2 := padS_size (by omega) (by omega)
  have s1 : (padS m 2).size = 2 := padS_size (by omega) (by omega)
  have s2 : (padS y 4).size = 4 := padS_size (by omega) (by omega)
  have k1 : ¬ 9223372036854775807 < (padS d 2).size + (padS m 2).size := by rw [s0, s1]; decide
  have k2 : ¬ 9223372036854775807 < (padS d 2 ++ padS m 2).size + (padS y 4).size := by rw [ByteArray.size_append, s0, s1, s2]; decide
  clear s0 s1 s2
  go_enter Tryz.func202, Tryz.ntmps202
  go_wp2_with fail
  refine (isform_c _ _).mono ?_
  rw [H.out]
  rintro e w1 ⟨rfl, rfl⟩
  go_wp2_with fail
  refine (isday_c _ _).mono ?_
  rw [HD.out]
  rintro e w1 ⟨rfl, rfl⟩
  go_wp2_with fail
  refine (dateof_c day y m d _ h1 h2 HDI.out).mono ?_
  rintro e w1 ⟨rfl, hb1⟩
  go_wp2_with fail
  refine (padded_c d 2 _ _ rfl (by omega) (by decide) (by decide) (by omega) (ht.below hb1)).mono ?_
  rintro e w2 ⟨rfl, hc0⟩
  have hd0 := below_then hc0 hb1 hb1.size
  go_wp2_with fail
  refine (padded_c m 2 _ _ rfl (by omega) (by decide) (by decide) (by omega) (ht.below hd0)).mono ?_
  rintro e w3 ⟨rfl, hc1⟩
  have hd1 := below_then hc1 hd0 hd0.size
  go_wp2_with fail
  refine (padded_c y 4 _ _ rfl (by omega) (by decide) (by decide) (by omega) (ht.below hd1)).mono ?_
  rintro e w4 ⟨rfl, hc2⟩
  have hd2 := below_then hc2 hd1 hd1.size
  go_wp2
  go_ret2
  exact ⟨rfl, hd2⟩
 ·skip
  have s0 : (padS y 4).size = 4 := padS_size (by omega) (by omega)
  have s1 : (padS m 2).size = 2 := padS_size (by omega) (by omega)
  have s2 : (padS d 2).size = 2 := padS_size (by omega) (by omega)
  have k1 : ¬ 9223372036854775807 < (padS y 4).size + (⟨#[45]⟩ : ByteArray).size := by rw [s0]; decide
  have k2 : ¬ 9223372036854775807 < (padS y 4 ++ ⟨#[45]⟩).size + (padS m 2).size := by rw [ByteArray.size_append, s0, s1]; decide
  have k3 : ¬ 9223372036854775807 < (padS y 4 ++ ⟨#[45]⟩ ++ padS m 2).size + (⟨#[45]⟩ : ByteArray).size := by rw [ByteArray.size_append, ByteArray.size_append, s0, s1]; decide
  have k4 : ¬ 9223372036854775807 < (padS y 4 ++ ⟨#[45]⟩ ++ padS m 2 ++ ⟨#[45]⟩).size + (padS d 2).size := by rw [ByteArray.size_append, ByteArray.size_append, ByteArray.size_append, s0, s1, s2]; decide
  clear s0 s1 s2
  go_enter Tryz.func202, Tryz.ntmps202
  go_wp2_with fail
  refine (isform_c _ _).mono ?_
  rw [H.out]
  rintro e w1 ⟨rfl, rfl⟩
  go_wp2_with fail
  refine (isday_c _ _).mono ?_
  rw [HD.out]
  rintro e w1 ⟨rfl, rfl⟩
  go_wp2_with fail
  refine (dateof_c day y m d _ h1 h2 HDI.out).mono ?_
  rintro e w1 ⟨rfl, hb1⟩
  go_wp2_with fail
  refine (padded_c y 4 _ _ rfl (by omega) (by decide) (by decide) (by omega) (ht.below hb1)).mono ?_
  rintro e w2 ⟨rfl, hc0⟩
  have hd0 := below_then hc0 hb1 hb1.size
  go_wp2_with fail
  refine (padded_c m 2 _ _ rfl (by omega) (by decide) (by decide) (by omega) (ht.below hd0)).mono ?_
  rintro e w3 ⟨rfl, hc1⟩
  have hd1 := below_then hc1 hd0 hd0.size
  go_wp2_with fail
  refine (padded_c d 2 _ _ rfl (by omega) (by decide) (by decide) (by omega) (ht.below hd1)).mono ?_
  rintro e w4 ⟨rfl, hc2⟩
  have hd2 := below_then hc2 hd1 hd1.size
  go_wp2
  go_ret2
  exact ⟨rfl, hd2⟩
 ·skip
  have s0 : (padS z 4).size = 4 := padS_size (by omega) (by omega)
  have s1 : (padS (wk day z) 2).size = 2 := padS_size (by omega) (by omega)
  have s2 : (padS ((day - 1) % 7 + 1) 1).size = 1 := padS_size (by omega) (by omega)
  have k1 : ¬ 9223372036854775807 < (padS z 4).size + (padS (wk day z) 2).size := by rw [s0, s1]; decide
  have k2 : ¬ 9223372036854775807 < (padS z 4 ++ padS (wk day z) 2).size + (padS ((day - 1) % 7 + 1) 1).size := by rw [ByteArray.size_append, s0, s1, s2]; decide
  clear s0 s1 s2
  go_enter Tryz.func202, Tryz.ntmps202
  go_wp2_with fail
  refine (isform_c _ _).mono ?_
  rw [H.out]
  rintro e w1 ⟨rfl, rfl⟩
  go_wp2_with fail
  refine (isday_c _ _).mono ?_
  rw [HD.out]
  rintro e w1 ⟨rfl, rfl⟩
  go_wp2_with fail
  refine (dateof_c day y m d _ h1 h2 HDI.out).mono ?_
  rintro e w1 ⟨rfl, hb1⟩
  go_wp2_with fail
  refine (weekof_c day z zm zd _ h1 h2 HZ.out).mono ?_
  rintro e w1b ⟨rfl, hb1b⟩
  have hb1 := below_then hb1b hb1 hb1.size
  go_wp2_with fail
  refine (padded_c z 4 _ _ rfl (by omega) (by decide) (by decide) (by omega) (ht.below hb1)).mono ?_
  rintro e w2 ⟨rfl, hc0⟩
  have hd0 := below_then hc0 hb1 hb1.size
  go_wp2_with fail
  refine (padded_c (wk day z) 2 _ _ rfl (by omega) (by decide) (by decide) (by omega) (ht.below hd0)).mono ?_
  rintro e w3 ⟨rfl, hc1⟩
  have hd1 := below_then hc1 hd0 hd0.size
  go_wp2_with fail
  refine (weekday_c _ _ ⟨h1, by omega⟩).mono ?_
  rintro e w5 ⟨rfl, rfl⟩
  go_wp2_with fail
  refine (itoa_c _ _ (by omega) (by omega) (ht.below hd1)).mono ?_
  rintro e w4 ⟨rfl, hc2⟩
  rw [show (⟨(Lib.decDigits ((day - 1) % 7 + 1).toNat).toArray⟩ : ByteArray) = padS ((day - 1) % 7 + 1) 1 from (padS_one (by omega)).symm]
  have hd2 := below_then hc2 hd1 hd1.size
  go_wp2
  go_ret2
  exact ⟨rfl, hd2⟩
 -- END FORMS
end Go.Proofs.YtbnjejenejoibaaGreatDoor
