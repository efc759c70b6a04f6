/- Plain: the samples of a column tell the same losses as the shapes of its numbers, the barred bytes, the widths. The walk of the reference's isOther. -/
import Derived.Test.YtaiabjiehpcaoaaGreatDoorZE
import Derived.Test.YtaiabjiehpcaoaaGreatDoorG1
import Derived.Test.YtaiabjiehpcaoaaGreatDoorZ9
-- merged: B0 B1
namespace Go.Proofs.YtaiabjiehpcaoaaGreatDoor
open Limb Nmb Work
set_option linter.unusedVariables false
set_option linter.unusedSimpArgs false
def smpU (n : Int) : List Int := [n - 1, 1 - n, 1000000000000000, -1000000000000000, n / 10, -(n / 10)]
def nrmS (u : Int) (p : Nat) : ByteArray := bs (textL (leastF u p).1 (leastF u p).2.toNat)
def smpE (p : Nat) (u : Int) : List ByteArray := if decB u (p : Int) = true then [nrmS u p] else []
def smpD (p d : Nat) : List ByteArray := (smpU ((10 ^ d : Nat) : Int)).flatMap (smpE p)
def smpP (p : Nat) : List ByteArray := (List.range 16).flatMap fun d => smpD p (d + 1)
def smpN (P : Nat) : List ByteArray := (List.range (P + 1)).flatMap smpP ++ [bs [48]]
def repS (n : Nat) (b : UInt8) : ByteArray := bs (List.replicate n b)
def smpT (W : Nat) : List ByteArray := (List.range 94).map (fun b => repS W (UInt8.ofNat (33 + b))) ++ (if 2 < W then [bs (97 :: (List.replicate (W - 2) 32 ++ [97]))] else [])
def dayT : ByteArray := bs [50, 48, 48, 48, 48, 49, 48, 49]
def smpL (c : Col) : List ByteArray := if c.kind = 3 then [dayT] else if c.kind = 1 then smpT c.width.toNat else smpN c.places.toNat
noncomputable def sfitB (f : Fmt) (c : Col) (s : ByteArray) : Bool := decide (valF f.mark f.quote c s = 0)
noncomputable def lessB (f g : Fmt) (c o : Col) : Bool := (smpL c).any fun s => sfitB f c s && !sfitB g o s
theorem smp_in {P p d : Nat} {u : Int} (hp : p <= P) (hd : 1 <= d /\ d <= 16) (hu : u ∈ smpU ((10 ^ d : Nat) : Int)) (hb : decB u (p : Int) = true) : nrmS u p ∈ smpN P := by
 unfold smpN
 refine List.mem_append.2 (.inl (List.mem_flatMap.2 ⟨p, List.mem_range.2 (by omega), ?_⟩))
 unfold smpP
 refine List.mem_flatMap.2 ⟨d - 1, List.mem_range.2 (by omega), ?_⟩
 rw [show d - 1 + 1 = d by omega]
 unfold smpD
 refine List.mem_flatMap.2 ⟨u, hu, ?_⟩
 unfold smpE
 rw [if_pos hb]
 exact List.mem_singleton.2 rfl
theorem pow_ten {k : Nat} (hk : 1 <= k) : ∃ m : Nat, 10 ^ k = 10 * m /\ 10 ^ (k - 1) = m /\ 0 < m := ⟨10 ^ (k - 1), by rw [show k = k - 1 + 1 by omega, Nat.pow_succ]; simp; omega, rfl, Nat.pow_pos (by decide)⟩
theorem dec_big : ∀ n : Nat, n < 10 ^ (Lib.decDigits n).length := by
 intro n
 induction n using Nat.strongRecOn with
 | _ n ih =>
  rw [Lib.decDigits]
  by_cases h : n < 10
  ·rw [dif_pos h]; simpa using h
  ·rw [dif_neg h]
   have h1 := ih (n / 10) (by omega)
   rw [List.length_append, List.length_singleton, Nat.pow_succ]
   omega
theorem dec_size9 {k : Nat} (hk : 1 <= k) : (Lib.decDigits (10 ^ k - 1)).length = k := by
 obtain ⟨m, h10, hm, hm0⟩ := pow_ten hk
 have h1 := (dec_len (n := 10 ^ k - 1) hk (by omega)).2
 have h3 := dec_big (10 ^ k - 1)
 rcases Nat.lt_or_ge (Lib.decDigits (10 ^ k - 1)).length k with h4 | h4
 ·have h5 : 10 ^ (Lib.decDigits (10 ^ k - 1)).length <= 10 ^ (k - 1) := Nat.pow_le_pow_right (by decide) (by omega)
  omega
 ·omega
theorem least_id {u : Int} (h : u % 10 ≠ 0) : ∀ p : Nat, leastF u p = (u, (p : Int))
 | 0 => rfl
 | p + 1 => least_stop h
theorem lst_id {u : Int} {p : Nat} (h : u % 10 ≠ 0) : lstB u (p : Int) = true := by
 unfold lstB
 rw [Int.toNat_natCast, least_id h]
 exact decide_eq_true rfl
theorem nrm_id {u : Int} {p : Nat} (h : u % 10 ≠ 0) : nrmS u p = bs (textL u p) := by
 unfold nrmS
 rw [least_id h]
 simp
theorem nines {k p neg : Nat} (hk : 1 <= k /\ k <= 15) (hn : neg < 2) (hp : p <= 9) {P : Nat} (hP : p <= P) : ∃ u : Int, u ≠ 0 /\ (-1000000000000000 <= u /\ u <= 1000000000000000) /\ lstB u (p : Int) = true /\ (Lib.decDigits u.natAbs).length = k /\ (if u < 0 then (1 : Int) else 0) = (neg : Int) /\ bs (textL u p) ∈ smpN P := by
 obtain ⟨m, h10, hm, hm0⟩ := pow_ten hk.1
 have h15 : 10 ^ k <= 10 ^ 15 := Nat.pow_le_pow_right (by decide) hk.2
 have e15 : (10 : Nat) ^ 15 = 1000000000000000 := by decide
 rw [e15] at h15
 have hd := dec_size9 hk.1
 have hdec : ∀ u : Int, (-1000000000000000 <= u /\ u <= 1000000000000000) -> decB u (p : Int) = true := fun u hu => decB_mk ⟨hu.1, hu.2, by omega, by omega⟩
 rcases (show neg = 0 ∨ neg = 1 by omega) with rfl | rfl
 ·have hb : (-1000000000000000 : Int) <= ((10 ^ k : Nat) : Int) - 1 /\ ((10 ^ k : Nat) : Int) - 1 <= 1000000000000000 := by omega
  have h9 : (((10 ^ k : Nat) : Int) - 1) % 10 ≠ 0 := by rw [h10]; omega
  refine ⟨((10 ^ k : Nat) : Int) - 1, by omega, hb, lst_id h9, ?_, by rw [if_neg (by omega)]; rfl, ?_⟩
  ·rw [show (((10 ^ k : Nat) : Int) - 1).natAbs = 10 ^ k - 1 by omega]; exact hd
  ·rw [<- nrm_id h9]
   exact smp_in hP ⟨hk.1, by omega⟩ (by unfold smpU; simp) (hdec _ hb)
 ·have hb : (-1000000000000000 : Int) <= 1 - ((10 ^ k : Nat) : Int) /\ 1 - ((10 ^ k : Nat) : Int) <= 1000000000000000 := by omega
  have h9 : (1 - ((10 ^ k : Nat) : Int)) % 10 ≠ 0 := by rw [h10]; omega
  refine ⟨1 - ((10 ^ k : Nat) : Int), by omega, hb, lst_id h9, ?_, by rw [if_pos (by omega)]; rfl, ?_⟩
  ·rw [show (1 - ((10 ^ k : Nat) : Int)).natAbs = 10 ^ k - 1 by omega]; exact hd
  ·rw [<- nrm_id h9]
   exact smp_in hP ⟨hk.1, by omega⟩ (by unfold smpU; simp) (hdec _ hb)
theorem dec_ten15 : (Lib.decDigits 1000000000000000).length = 16 := by
 have h1 := (dec_len (n := 1000000000000000) (k := 16) (by decide) (by decide)).2
 have h3 := dec_big 1000000000000000
 rcases Nat.lt_or_ge (Lib.decDigits 1000000000000000).length 16 with h4 | h4
 ·have h5 : 10 ^ (Lib.decDigits 1000000000000000).length <= 10 ^ 15 := Nat.pow_le_pow_right (by decide) (by omega)
  have e15 : (10 : Nat) ^ 15 = 1000000000000000 := by decide
  omega
 ·omega
theorem shp_smp {sh : Shp} {P : Nat} (hs : sh ∈ shapesL) (hp : sh.places <= P) (hP : P <= 9) : ∃ (u : Int) (q : Nat), u ≠ 0 /\ (-1000000000000000 <= u /\ u <= 1000000000000000) /\ q <= 9 /\ lstB u (q : Int) = true /\ shpOf u q = sh /\ bs (textL u q) ∈ smpN P := by
 unfold shapesL ngS at hs
 obtain ⟨neg, hneg, hs⟩ := List.mem_flatMap.1 hs
 have hneg := List.mem_range.1 hneg
 rcases List.mem_append.1 hs with hs | hs
 ·unfold plS at hs
  obtain ⟨p, hp10, hs⟩ := List.mem_flatMap.1 hs
  have hp10 := List.mem_range.1 hp10
  rcases List.mem_append.1 hs with hs | hs
  ·unfold befS at hs
   obtain ⟨b, hb, rfl⟩ := List.mem_map.1 hs
   have hb := List.mem_range.1 hb
   simp only at hp
   obtain ⟨u, h1, h2, h3, h4, h5, h6⟩ := nines (k := b + 1 + p) (p := p) (neg := neg) ⟨by omega, by omega⟩ hneg (by omega) (P := P) (by omega)
   refine ⟨u, p, h1, h2, by omega, h3, ?_, h6⟩
   unfold shpOf
   rw [h4, h5, if_pos (by omega)]
   congr 1
   omega
  ·unfold fstS at hs
   obtain ⟨b, hb, rfl⟩ := List.mem_map.1 hs
   have hb := List.mem_range.1 hb
   simp only at hp
   obtain ⟨u, h1, h2, h3, h4, h5, h6⟩ := nines (k := p - b) (p := p) (neg := neg) ⟨by omega, by omega⟩ hneg (by omega) (P := P) (by omega)
   refine ⟨u, p, h1, h2, by omega, h3, ?_, h6⟩
   unfold shpOf
   rw [h4, h5, if_neg (by omega)]
   congr 1
   omega
 ·obtain rfl := List.mem_singleton.1 hs
  have hl : ∀ u : Int, lstB u ((0 : Nat) : Int) = true := fun u => by unfold lstB; exact decide_eq_true rfl
  have hn0 : ∀ u : Int, nrmS u 0 = bs (textL u 0) := fun u => rfl
  rcases (show neg = 0 ∨ neg = 1 by omega) with rfl | rfl
  ·refine ⟨1000000000000000, 0, by decide, by decide, by decide, hl _, ?_, ?_⟩
   ·unfold shpOf
    rw [show (1000000000000000 : Int).natAbs = 1000000000000000 from rfl, dec_ten15, if_pos (by decide), if_neg (by decide)]
    rfl
   ·rw [<- hn0]
    exact smp_in (p := 0) (d := 1) (by omega) (by decide) (by unfold smpU; simp) (decB_mk (by decide))
  ·refine ⟨-1000000000000000, 0, by decide, by decide, by decide, hl _, ?_, ?_⟩
   ·unfold shpOf
    rw [show (-1000000000000000 : Int).natAbs = 1000000000000000 from rfl, dec_ten15, if_pos (by decide), if_pos (by decide)]
    rfl
   ·rw [<- hn0]
    exact smp_in (p := 0) (d := 1) (by omega) (by decide) (by unfold smpU; simp) (decB_mk (by decide))
theorem shp_places (u : Int) (q : Nat) : (shpOf u q).places = (q : Int) := by unfold shpOf; split <;> rfl
theorem bs_ne {l : List UInt8} (h : l ≠ []) : bs l ≠ ⟨#[]⟩ := fun e => h (by
 have := congrArg (fun b : ByteArray => b.data.toList) e
 simpa [bs] using this)
theorem text_ne (u : Int) (q : Nat) : textL u q ≠ [] := fun e => by
 have h := textL_len u q
 rw [e] at h
 have h1 := dec_ne u.natAbs
 simp only [List.length_nil] at h
 repeat' split at h
 all_goals omega
theorem num_val {m qt : Int} {x : Col} {u : Int} {q : Nat} (hx : x.kind = 2) (hxp : 0 <= x.places) (hm : 0 <= m /\ m <= 255) (hmk : m ≠ 0 -> markF m = false) (hu : u ≠ 0) (hb : -1000000000000000 <= u /\ u <= 1000000000000000) (hq : q <= 9) (hl : lstB u (q : Int) = true) : (valF m qt x (bs (textL u q)) = 0) ↔ shInB m x (shpOf u q) = true := by
 have hne := bs_ne (text_ne u q)
 have hrd := readText_back hb hq
 have hok : valOk x (bs (textL u q)).data.toList = decide ((q : Int) <= x.places) := by
  unfold valOk decOk
  rw [if_pos hx, show (bs (textL u q)).data.toList = textL u q from by simp [bs], hrd]
  simp only
  rw [hl, Bool.and_true]
  simp
 have hcl : ¬ (m ≠ 0 /\ qt = 0 /\ 0 <= Lib.indexByte (bs (textL u q)).data.toList (UInt8.ofNat m.toNat)) := fun h => by
  have h4 := num_clean (u := u) (q := q) (hmk h.1) hm
  rw [show (bs (textL u q)).data.toList = textL u q from by simp [bs]] at h
  omega
 unfold valF shInB
 rw [if_neg hne, hok, shp_places]
 by_cases hp : (q : Int) <= x.places
 ·rw [decide_eq_true hp, if_neg (by decide), Bool.true_and]
  have hw : ((wrS m x (bs (textL u q))).size : Int) = wideF m x (shpOf u q) := by
   unfold wrS
   rw [if_neg hne]
   by_cases h0 : m = 0
   ·subst h0
    rw [if_pos ⟨hx, rfl⟩, show (bs (textL u q)).data.toList = textL u q from by simp [bs], hrd, wide_fixed hu hxp hp, bs_size2]
   ·rw [if_neg (fun h => h0 h.2), if_neg (by omega), wide_marked h0, bs_size2]
  rw [hw]
  by_cases h5 : x.width < wideF m x (shpOf u q)
  ·rw [if_pos h5, decide_eq_false (by omega)]
   exact ⟨fun h => absurd h (by decide), fun h => absurd h (by decide)⟩
  ·rw [if_neg h5, if_neg hcl, decide_eq_true (by omega)]
   exact ⟨fun _ => rfl, fun _ => rfl⟩
 ·rw [decide_eq_false hp, if_pos rfl]
  exact ⟨fun h => absurd h (by decide), fun h => (by cases h)⟩
theorem rep_data (n : Nat) (b : UInt8) : (repS n b).data.toList = List.replicate n b := by simp [repS, bs]
theorem ixb_hit {l : List UInt8} {c : UInt8} (h : c ∈ l) : 0 <= Lib.indexByte l c := Classical.byContradiction fun k => ixb_in k h
theorem txt_val {m qt : Int} {x : Col} {s : ByteArray} (hx1 : x.kind ≠ 2) (hx2 : x.kind ≠ 3) (hs : s ≠ ⟨#[]⟩) (hin : inL s.data.toList 32 126 = true) (hh : s.data.toList.head? ≠ some 32) (ht : s.data.toList.getLast? ≠ some 32) : (valF m qt x s = 0) ↔ ((s.size : Int) <= x.width /\ ¬ (m ≠ 0 /\ qt = 0 /\ UInt8.ofNat m.toNat ∈ s.data.toList)) := by
 have hok : valOk x s.data.toList = true := by
  unfold valOk txtOk
  rw [if_neg hx1, if_neg hx2, hin, decide_eq_true ((trim_id _).2 ⟨hh, ht⟩)]
  rfl
 have hw : wrS m x s = s := by
  unfold wrS
  rw [if_neg hs, if_neg (fun h => hx1 h.1), if_neg hx2]
 unfold valF
 rw [if_neg hs, if_neg (by rw [hok]; decide), hw]
 by_cases h5 : x.width < (s.size : Int)
 ·rw [if_pos h5]
  exact ⟨fun h => absurd h (by decide), fun h => absurd h.1 (by omega)⟩
 ·rw [if_neg h5]
  by_cases h6 : m ≠ 0 /\ qt = 0 /\ 0 <= Lib.indexByte s.data.toList (UInt8.ofNat m.toNat)
  ·rw [if_pos h6]
   exact ⟨fun h => absurd h (by decide), fun h => absurd (show m ≠ 0 /\ qt = 0 /\ UInt8.ofNat m.toNat ∈ s.data.toList from ⟨h6.1, h6.2.1, Classical.byContradiction fun k => absurd (ixb_no k) (by omega)⟩) h.2⟩
  ·rw [if_neg h6]
   exact ⟨fun _ => ⟨by omega, fun h => h6 ⟨h.1, h.2.1, ixb_hit h.2.2⟩⟩, fun _ => rfl⟩
theorem inL_of {l : List UInt8} (h : ∀ c ∈ l, 32 <= c.toNat /\ c.toNat <= 126) : inL l 32 126 = true := by
 unfold inL
 refine decide_eq_true fun i hi => ?_
 have h1 := h l[i] (List.getElem_mem hi)
 have h2 : byA l i = (l[i].toNat : Int) := by unfold byA; simp [List.getD_eq_getElem?_getD, hi]
 omega
theorem rep_ok {n b : Nat} (hn : 0 < n) (hb : 33 <= b /\ b <= 126) : repS n (UInt8.ofNat b) ≠ ⟨#[]⟩ /\ inL (repS n (UInt8.ofNat b)).data.toList 32 126 = true /\ (repS n (UInt8.ofNat b)).data.toList.head? ≠ some 32 /\ (repS n (UInt8.ofNat b)).data.toList.getLast? ≠ some 32 /\ (repS n (UInt8.ofNat b)).size = n := by
 have hbn : (UInt8.ofNat b).toNat = b := by rw [UInt8.toNat_ofNat']; omega
 have hne : UInt8.ofNat b ≠ 32 := fun e => by rw [e] at hbn; have : (32 : UInt8).toNat = 32 := rfl; omega
 have hall : ∀ c ∈ (repS n (UInt8.ofNat b)).data.toList, c = UInt8.ofNat b := fun c hc => by rw [rep_data] at hc; exact List.eq_of_mem_replicate hc
 refine ⟨bs_ne (fun e => by have := congrArg List.length e; simp at this; omega), inL_of fun c hc => by rw [hall c hc, hbn]; omega, fun e => ?_, fun e => ?_, by unfold repS; rw [bs_size2, List.length_replicate]⟩
 ·exact hne (hall 32 (List.mem_of_head? e)).symm
 ·exact hne (hall 32 (List.mem_of_getLast? e)).symm
theorem rep_mem {n : Nat} (hn : 0 < n) (b c : UInt8) : c ∈ (repS n b).data.toList ↔ c = b := by
 rw [rep_data, List.mem_replicate]
 exact ⟨fun h => h.2, fun h => ⟨by omega, h⟩⟩
theorem u8_eq {a b : Nat} (ha : a < 256) (hb : b < 256) : UInt8.ofNat a = UInt8.ofNat b ↔ a = b := by
 constructor
 ·intro e
  have := congrArg UInt8.toNat e
  rw [UInt8.toNat_ofNat', UInt8.toNat_ofNat'] at this
  omega
 ·intro e; rw [e]
theorem day_sample : dayOk dayT.data.toList = true := by decide +kernel
theorem less_of_loss {f g : Fmt} (hf : FmtK f) (hg : FmtK g) (hmf : 0 <= f.mark /\ f.mark <= 255) (hmg : 0 <= g.mark /\ g.mark <= 255) {c o : Col} (hc : ColK f.mark c) (ho : ColK g.mark o) (hk : o.kind = c.kind) (hl : lossB f g c o = true) : ∃ s ∈ smpL c, sfitB f c s = true /\ sfitB g o s = false := by
 unfold lossB at hl
 unfold smpL sfitB
 have hkd := hc.kind
 have hwc := hc.width
 by_cases k2 : c.kind = 2
 ·rw [if_pos k2] at hl
  rw [if_neg (by omega), if_neg (by omega)]
  unfold numLoss at hl
  obtain ⟨sh, hsh, h⟩ := List.any_eq_true.1 hl
  rw [Bool.and_eq_true, Bool.not_eq_true'] at h
  have hpc := hc.places k2
  have hpo := ho.places (by rw [hk]; exact k2)
  have hpl : sh.places <= c.places := by
   have := h.1
   unfold shInB at this
   rw [Bool.and_eq_true] at this
   exact of_decide_eq_true this.1
  obtain ⟨u, q, h1, h2, h3, h4, h5, h6⟩ := shp_smp hsh (P := c.places.toNat) (by omega) (by omega)
  refine ⟨_, h6, decide_eq_true ?_, decide_eq_false ?_⟩
  ·rw [num_val k2 hpc.1 hmf (fun e => (hf.marks e).1) h1 h2 h3 h4, h5]
   exact h.1
  ·rw [num_val (by rw [hk]; exact k2) hpo.1 hmg (fun e => (hg.marks e).1) h1 h2 h3 h4, h5, h.2]
   decide
 rw [if_neg k2] at hl
 by_cases k3 : c.kind = 3
 ·rw [if_pos k3] at hl ⊢
  unfold dayLoss at hl
  rw [Bool.and_eq_true] at hl
  have hl1 := of_decide_eq_true hl.1
  have hl2 := of_decide_eq_true hl.2
  have hne : dayT ≠ ⟨#[]⟩ := bs_ne (by decide)
  have hd := day_read day_sample
  have hok : ∀ x : Col, x.kind = 3 -> valOk x dayT.data.toList = true := fun x hx => by
   unfold valOk
   rw [if_neg (by omega), if_pos hx]
   exact day_sample
  have hwr : ∀ (m : Int) (x : Col), x.kind = 3 -> formW x.form ≠ 0 -> ((wrS m x dayT).size : Int) = formW x.form := fun m x hx hfx => by
   unfold wrS
   rw [if_neg hne, if_neg (fun h => by have := h.1; omega), if_pos hx]
   exact dayS_size hfx hd
  have hfc := hc.form k3
  have hfo := ho.form (by rw [hk]; exact k3)
  refine ⟨dayT, List.mem_singleton.2 rfl, decide_eq_true ?_, decide_eq_false ?_⟩
  ·unfold valF
   rw [if_neg hne, if_neg (by rw [hok c k3]; decide), if_neg (by rw [hwr _ _ k3 hfc]; omega), if_neg (fun h => ?_)]
   have h4 := day_clean day_sample (hf.marks h.1).1 hmf
   omega
  ·unfold valF
   rw [if_neg hne, if_neg (by rw [hok o (by rw [hk]; exact k3)]; decide), if_pos (by rw [hwr _ _ (by rw [hk]; exact k3) hfo]; omega)]
   decide
 ·rw [if_neg k3] at hl ⊢
  have k1 : c.kind = 1 := by omega
  rw [if_pos k1]
  have hW : 0 < c.width.toNat := by omega
  have hwe : ((c.width.toNat : Nat) : Int) = c.width := by omega
  unfold txtLoss at hl
  rw [Bool.or_eq_true] at hl
  have ho1 : o.kind ≠ 2 := by rw [hk]; exact k2
  have ho2 : o.kind ≠ 3 := by rw [hk]; exact k3
  -- a sample of one byte
  have one : ∀ b : Nat, 33 <= b -> b <= 126 -> (f.mark ≠ 0 -> f.quote = 0 -> f.mark ≠ (b : Int)) -> (o.width < c.width ∨ (g.mark ≠ 0 /\ g.quote = 0 /\ g.mark = (b : Int))) -> ∃ s ∈ smpT c.width.toNat, decide (valF f.mark f.quote c s = 0) = true /\ decide (valF g.mark g.quote o s = 0) = false := fun b hb1 hb2 hfb hgb => by
   obtain ⟨r1, r2, r3, r4, r5⟩ := rep_ok hW ⟨hb1, hb2⟩
   refine ⟨repS c.width.toNat (UInt8.ofNat b), ?_, decide_eq_true ?_, decide_eq_false ?_⟩
   ·unfold smpT
    refine List.mem_append.2 (.inl (List.mem_map.2 ⟨b - 33, List.mem_range.2 (by omega), ?_⟩))
    rw [show 33 + (b - 33) = b by omega]
   ·rw [txt_val k2 k3 r1 r2 r3 r4, r5]
    refine ⟨by omega, fun h => ?_⟩
    have h1 := (rep_mem hW _ _).1 h.2.2
    rw [u8_eq (by omega) (by omega)] at h1
    exact hfb h.1 h.2.1 (by omega)
   ·rw [txt_val ho1 ho2 r1 r2 r3 r4, r5]
    rintro ⟨h1, h2⟩
    rcases hgb with h | ⟨h3, h4, h5⟩
    ·omega
    ·refine h2 ⟨h3, h4, (rep_mem hW _ _).2 ?_⟩
     rw [u8_eq (by omega) (by omega)]
     omega
  rcases hl with hl | hl
  ·have hl := of_decide_eq_true hl
   by_cases h33 : f.mark = 33
   ·exact one 34 (by decide) (by decide) (fun _ _ => by omega) (.inl hl)
   ·exact one 33 (by decide) (by decide) (fun _ _ => h33) (.inl hl)
  ·rw [Bool.and_eq_true, Bool.and_eq_true] at hl
   have hb0 := of_decide_eq_true hl.1.1
   have hbf := of_decide_eq_true hl.1.2
   have hgq : g.quote = 0 /\ barF g = g.mark := by
    unfold barF at hb0 ⊢
    by_cases hq : g.quote = 0
    ·rw [if_neg (fun k => k hq)]; exact ⟨hq, rfl⟩
    ·rw [if_pos hq] at hb0; exact absurd rfl hb0
   rw [hgq.2] at hb0 hbf hl
   have hrng := markF_rng (hg.marks hb0).1
   have hfb : f.mark ≠ 0 -> f.quote = 0 -> f.mark ≠ g.mark := fun h1 h2 h3 => hbf (by unfold barF; rw [if_neg (fun k => k h2)]; exact h3.symm)
   by_cases h32 : g.mark = 32
   ·have hw2 : 2 < c.width := by
     rcases Bool.or_eq_true _ _ ▸ hl.2 with h | h
     ·exact absurd h32 (of_decide_eq_true h)
     ·exact of_decide_eq_true h
    obtain ⟨k, hkw⟩ : ∃ k, c.width.toNat - 2 = k + 1 := ⟨c.width.toNat - 3, by omega⟩
    have hdt : (bs (97 :: (List.replicate (c.width.toNat - 2) 32 ++ [97]))).data.toList = 97 :: (List.replicate (c.width.toNat - 2) 32 ++ [97]) := by simp [bs]
    have hsz : (bs (97 :: (List.replicate (c.width.toNat - 2) (32 : UInt8) ++ [97]))).size = c.width.toNat := by rw [bs_size2]; simp; omega
    have hmem : ∀ y : UInt8, y ∈ (97 :: (List.replicate (c.width.toNat - 2) (32 : UInt8) ++ [97])) ↔ (y = 97 ∨ y = 32) := fun y => by
     rw [hkw]
     simp
     constructor
     ·rintro (h | h | h)
      ·exact .inl h
      ·exact .inr h
      ·exact .inl h
     ·rintro (h | h)
      ·exact .inl h
      ·exact .inr (.inl h)
    have q1 : bs (97 :: (List.replicate (c.width.toNat - 2) (32 : UInt8) ++ [97])) ≠ ⟨#[]⟩ := bs_ne (by simp)
    have q2 : inL (bs (97 :: (List.replicate (c.width.toNat - 2) (32 : UInt8) ++ [97]))).data.toList 32 126 = true := by
     rw [hdt]
     refine inL_of fun y hy => ?_
     rcases (hmem y).1 hy with rfl | rfl <;> decide
    have q3 : (bs (97 :: (List.replicate (c.width.toNat - 2) (32 : UInt8) ++ [97]))).data.toList.head? ≠ some 32 := by rw [hdt]; simp
    have q4 : (bs (97 :: (List.replicate (c.width.toNat - 2) (32 : UInt8) ++ [97]))).data.toList.getLast? ≠ some 32 := by
     rw [hdt, <- List.cons_append, List.getLast?_append]
     simp
    refine ⟨bs (97 :: (List.replicate (c.width.toNat - 2) 32 ++ [97])), ?_, decide_eq_true ?_, decide_eq_false ?_⟩
    ·unfold smpT
     refine List.mem_append.2 (.inr ?_)
     rw [if_pos (by omega)]
     exact List.mem_singleton.2 rfl
    ·rw [txt_val k2 k3 q1 q2 q3 q4, hsz]
     refine ⟨by omega, fun h => ?_⟩
     have h1 := h.2.2
     rw [hdt, hmem] at h1
     have hr := markF_rng (hf.marks h.1).1
     rcases h1 with h1 | h1
     ·have : f.mark.toNat = 97 := (u8_eq (by omega) (by decide)).1 h1
      omega
     ·have : f.mark.toNat = 32 := (u8_eq (by omega) (by decide)).1 h1
      exact hfb h.1 h.2.1 (by omega)
    ·rw [txt_val ho1 ho2 q1 q2 q3 q4, hsz]
     rintro ⟨-, h2⟩
     refine h2 ⟨hb0, hgq.1, ?_⟩
     rw [hdt, hmem, h32]
     exact .inr rfl
   ·have : ((g.mark.toNat : Nat) : Int) = g.mark := by omega
    exact one g.mark.toNat (by omega) (by omega) (fun h1 h2 => by rw [this]; exact hfb h1 h2) (.inr ⟨hb0, hgq.1, this.symm⟩)
theorem less_loss {f g : Fmt} (hf : FmtK f) (hg : FmtK g) (hmf : 0 <= f.mark /\ f.mark <= 255) (hmg : 0 <= g.mark /\ g.mark <= 255) {c o : Col} (hc : ColK f.mark c) (ho : ColK g.mark o) (hk : o.kind = c.kind) (hne : ∀ s ∈ smpL c, s ≠ ⟨#[]⟩) : lessB f g c o = lossB f g c o := by
 cases hl : lossB f g c o with
 | true =>
  obtain ⟨s, h1, h2, h3⟩ := less_of_loss hf hg hmf hmg hc ho hk hl
  exact List.any_eq_true.2 ⟨s, h1, by rw [h2, h3]; rfl⟩
 | false =>
  rw [Bool.eq_false_iff]
  intro h
  obtain ⟨s, h1, h2⟩ := List.any_eq_true.1 h
  rw [Bool.and_eq_true, Bool.not_eq_true'] at h2
  have h3 := of_decide_eq_true (show decide (valF f.mark f.quote c s = 0) = true from h2.1)
  have h4 := val_turn hf hg hmf hmg hc ho hk hl (hne s h1) h3
  have h5 := of_decide_eq_false (show decide (valF g.mark g.quote o s = 0) = false from h2.2)
  exact h5 h4
theorem smp_ne {c : Col} (hw : 1 <= c.width) : ∀ s ∈ smpL c, s ≠ ⟨#[]⟩ := by
 intro s hs
 unfold smpL at hs
 split at hs
 ·obtain rfl := List.mem_singleton.1 hs
  exact bs_ne (by decide)
 split at hs
 ·unfold smpT at hs
  rcases List.mem_append.1 hs with h | h
  ·obtain ⟨b, -, rfl⟩ := List.mem_map.1 h
   exact bs_ne (fun e => by have := congrArg List.length e; simp at this; omega)
  ·split at h
   ·obtain rfl := List.mem_singleton.1 h
    exact bs_ne (by simp)
   ·cases h
 ·unfold smpN at hs
  rcases List.mem_append.1 hs with h | h
  ·obtain ⟨p, -, h⟩ := List.mem_flatMap.1 h
   unfold smpP at h
   obtain ⟨d, -, h⟩ := List.mem_flatMap.1 h
   unfold smpD at h
   obtain ⟨u, -, h⟩ := List.mem_flatMap.1 h
   unfold smpE at h
   split at h
   ·obtain rfl := List.mem_singleton.1 h
    exact bs_ne (text_ne _ _)
   ·cases h
  ·obtain rfl := List.mem_singleton.1 h
   exact bs_ne (by decide)
end Go.Proofs.YtaiabjiehpcaoaaGreatDoor
namespace Go.Proofs.YtaiabjiehpcaoaaGreatDoor
open Go.RowKit Limb Nmb Work
set_option linter.unusedVariables false
set_option linter.unusedSimpArgs false
theorem typeB1_none (k : RKd) : k.fields.any (typeB2 kind0) = false := any_miss fun _ _ => rfl
set_option maxHeartbeats 8000000 in
set_option maxRecDepth 100000 in
theorem risother_c (f g : Fmt) (A B : Option Addr) (cp cq : Nat) (FA GA : Nat -> Option Addr) (FC GC : Nat -> Nat) (w : World) (ho : Kinds w A f.kinds FA FC) (hg : Kinds w B g.kinds GA GC) (hf : checkF f = 0) (hcq : g.kinds.length <= cq) (hgc : checkF g = 0) :
  Calls Tryz.prog 26 #[fmtG f A cp, fmtG g B cq] w (RetB (typeB f g) w) := by
 have HKF := Lib.hid ho; have HKG := Lib.hid hg
 have HKA2 := Lib.hid (fun t w h => rkindof_c g B cq GA GC t w h)
 have HFM := Lib.hid (checkF_ok hf)
 have HGM := Lib.hid (checkF_ok hgc)
 obtain ⟨R, hR⟩ : ∃ x, typeB f g = x := ⟨_, rfl⟩
 have HR := Lib.hid (show f.kinds.any (typeB1 g) = R from hR)
 rw [hR]
 clear hR ho hg hf hgc
 obtain ⟨fm, fq, fks, fd, ft, fc, fs0⟩ := f
 obtain ⟨gm, gq, gks, gd, gt, gc, gs⟩ := g
 unfold fmtG at HKA2 ⊢
 unfold RetB
 simp only at HKA2 HKF HKG HR hcq ⊢
 obtain ⟨nk, hnk⟩ : ∃ x, fks.length = x := ⟨_, rfl⟩
 obtain ⟨ng, hng⟩ : ∃ x, gks.length = x := ⟨_, rfl⟩
 have HNK := Lib.hid hnk
 have HNG := Lib.hid hng
 rw [hnk]
 rw [hng] at HKA2 hcq ⊢
 have hnk30 : nk <= 30 := by rw [<- hnk]; exact HFM.out.some.2
 have hng30 : ng <= 30 := by rw [<- hng]; exact HGM.out.some.2
 clear hnk hng
 have hP1 := heap_old (heap_new w (.cells #[.int .u8 fm, .int .u8 fq, .slice A nk cp, .string fd, .string ft, .string fc, .string fs0] 24) rfl) (.cells #[.int .u8 gm, .int .u8 gq, .slice B ng cq, .string gd, .string gt, .string gc, .string gs] 24)
 have hP2 := heap_new (w.alloc (.cells #[.int .u8 fm, .int .u8 fq, .slice A nk cp, .string fd, .string ft, .string fc, .string fs0] 24)) (.cells #[.int .u8 gm, .int .u8 gq, .slice B ng cq, .string gd, .string gt, .string gc, .string gs] 24) (g := w.heap.size + 1) (by simp)
 have hB1 : Below w.heap.size w ((w.alloc (.cells #[.int .u8 fm, .int .u8 fq, .slice A nk cp, .string fd, .string ft, .string fc, .string fs0] 24)).alloc (.cells #[.int .u8 gm, .int .u8 gq, .slice B ng cq, .string gd, .string gt, .string gc, .string gs] 24)) := by go_grown
 go_enter Tryz.func26, Tryz.ntmps26
 go_upto_region 1 with fail
 generalize (w.alloc (.cells #[.int .u8 fm, .int .u8 fq, .slice A nk cp, .string fd, .string ft, .string fc, .string fs0] 24)).alloc (.cells #[.int .u8 gm, .int .u8 gq, .slice B ng cq, .string gd, .string gt, .string gc, .string gs] 24) = w1 at hP1 hP2 hB1 ⊢
 have HW := Lib.hid (show ∀ wx, Below w1.heap.size w1 wx -> wx.heap[w.heap.size + 1]? = some (.cells #[.int .u8 gm, .int .u8 gq, .slice B ng cq, .string gd, .string gt, .string gc, .string gs] 24 (0, 0)) /\ Kinds wx A fks FA FC /\ Kinds wx B gks GA GC /\ Below w.heap.size w wx from fun wx h => by
  have h2 := below_then h hB1 hB1.size
  exact ⟨heap_below hP2 h, HKF.out.below h2, HKG.out.below h2, h2⟩)
 obtain ⟨⟨p0, p1, p2, p3, p4, p5, p6⟩, -⟩ := obox7 hP1
 clear hP2 hB1
 go_wp2_with fail
 go_loopw [14] (fun i wr => ∃ (j : Nat), j <= nk /\ i = .int .i64 j /\ Hid (∀ x, x < j -> typeB1 ⟨gm, gq, gks, gd, gt, gc, gs⟩ (kA fks x) = false) /\ Hid (Below w1.heap.size w1 wr)) (fun i _ => nk - (intOf i).toNat)
 case atStart => exact ⟨0, by omega, rfl, Lib.hid (fun x h => absurd h (Nat.not_lt_zero _)), Lib.hid (Below.refl _ _)⟩
 case round =>
  clear hP1 p0 p1 p2 p3 p4 p5 p6
  obtain ⟨j, hj, rfl, HT, HB⟩ := hrel
  have hzr := HB.out.size
  rcases Nat.lt_or_ge j nk with hlt | hge
  ·have tk : decide ((j : Int) < (nk : Int)) = true := decide_eq_true (by omega)
   have hjl : j < fks.length := by rw [HNK.out]; exact hlt
   obtain ⟨b, off, rfl, hbw, c0, c1, c2, c3⟩ := (HW.out _ HB.out).2.1.cells hjl
   have HCO := Lib.hid (fun wx h => kinds_cols (HW.out wx h).2.1 hjl)
   have hmny := (HFM.out.kinds j hjl).many
   simp only at hmny
   have HHIT := Lib.hid (show typeB1 ⟨gm, gq, gks, gd, gt, gc, gs⟩ (kA fks j) = true -> R = true from fun h => HR.out.symm.trans (any_hit (by rw [<- kA_get hjl]; exact List.getElem_mem hjl) h))
   have HMISS := Lib.hid (show typeB1 ⟨gm, gq, gks, gd, gt, gc, gs⟩ (kA fks j) = false -> ∀ x, x < j + 1 -> typeB1 ⟨gm, gq, gks, gd, gt, gc, gs⟩ (kA fks x) = false from fun h x hx => by
    rcases Nat.lt_or_ge x j with h2 | h2
    ·exact HT.out x h2
    ·obtain rfl : x = j := by omega
     exact h)
   obtain ⟨K, hK⟩ : ∃ x, kA fks j = x := ⟨_, rfl⟩
   rw [hK] at c0 c1 c2 c3 HCO hmny HHIT HMISS
   generalize FA j = KA at c1 HCO
   generalize FC j = KC at c1
   obtain ⟨kt, kfs, km, ku⟩ := K
   simp only at c0 c1 c2 c3 HCO hmny
   obtain ⟨nf, hnf⟩ : ∃ x, kfs.length = x := ⟨_, rfl⟩
   have HNF := Lib.hid hnf
   rw [hnf] at c1 hmny
   have HK3 := Lib.hid (heap_new wr (.cells #[.string kt, .slice KA nf KC, .int .i64 km, .string ku] 52) rfl)
   have HB3 := Lib.hid (show Below w1.heap.size w1 (wr.alloc (.cells #[.string kt, .slice KA nf KC, .int .i64 km, .string ku] 52)) from HB.out.alloc hzr _)
   clear hK hnf hjl
   go_upto_region 4 with fail
   obtain ⟨kb, hkb⟩ : ∃ x, wr.heap.size = x := ⟨_, rfl⟩
   rw [hkb] at HK3
   try rw [hkb]
   generalize wr.alloc (.cells #[.string kt, .slice KA nf KC, .int .i64 km, .string ku] 52) = w3 at HK3 HB3 ⊢
   clear hkb c0 c1 c2 c3 hbw HB hzr
   obtain ⟨q2, -, qg, -⟩ := HW.out _ HB3.out
   obtain ⟨⟨q0, q1, q2, q3, q4, q5, q6⟩, -⟩ := obox7 q2
   obtain ⟨⟨k0, k1, k2, k3⟩, -, -⟩ := obox4 HK3.out
   go_wp2_with fail
   refine (HKA2.out kt _ qg).mono ?_
   rintro _ w4 ⟨rfl, hb4⟩
   have HK4 := Lib.hid (heap_below HK3.out hb4)
   have HB4 := Lib.hid (below_then hb4 HB3.out HB3.out.size)
   clear q0 q1 q2 q3 q4 q5 q6 k0 k1 k2 k3 qg hb4 HK3 HB3
   rcases kat_cases ⟨gm, gq, gks, gd, gt, gc, gs⟩ GA GC kt with ⟨e1, e2, -, -⟩ | ⟨k, hk, e1, e2, -, -⟩
   ·have e3 : ixF (tagIs kt) gks = -1 := e1
    have HM0 := Lib.hid (HMISS.out (show kfs.any (typeB2 (katK ⟨gm, gq, gks, gd, gt, gc, gs⟩ kt)) = false by rw [e2]; exact typeB1_none ⟨kt, kfs, km, ku⟩))
    rw [e3]
    clear e1 e2 e3 HMISS HHIT
    have tm : decide ((-1 : Int) < 0) = true := by decide
    go_wp2
    go_roundw
    case rel => exact ⟨j + 1, by omega, by go_num, HM0, HB4⟩
    case measure => simp [intOf]; omega
   have e3 : ixF (tagIs kt) gks = (k : Int) := e1
   have hk : k < gks.length := hk
   have hkg : k < ng := by rw [<- HNG.out]; exact hk
   have HT1 := Lib.hid (show typeB1 ⟨gm, gq, gks, gd, gt, gc, gs⟩ ⟨kt, kfs, km, ku⟩ = kfs.any (typeB2 (kA gks k)) by unfold typeB1; rw [e2])
   rw [e3]
   have HKGC := Lib.hid (fun wx (h : Below w1.heap.size w1 wx) => (HW.out wx h).2.2.1.cells hk)
   have HCL := Lib.hid (fun wx (h : Below w1.heap.size w1 wx) => kinds_cols (HW.out wx h).2.2.1 hk)
   have tm : decide ((k : Int) < 0) = false := decide_eq_false (by omega)
   clear e1 e2 e3 hk
   rw [HT1.out] at HHIT HMISS
   obtain ⟨O, hO⟩ : ∃ x, kA gks k = x := ⟨_, rfl⟩
   obtain ⟨OA, hOA⟩ : ∃ x, GA k = x := ⟨_, rfl⟩
   obtain ⟨OC, hOC⟩ : ∃ x, GC k = x := ⟨_, rfl⟩
   rw [hO] at HHIT HMISS HKGC HCL
   rw [hOA] at HKGC HCL
   rw [hOC] at HKGC
   clear hO hOA hOC HT1
   have HT2 := Lib.hid (fun c => (show typeB2 O c = (decide (0 <= ixF (nameIs c.name) O.fields) && decide ((cA O.fields (ixF (nameIs c.name) O.fields).toNat).kind ≠ c.kind)) from rfl))
   have HCA := Lib.hid (fun t wx (h : Below w1.heap.size w1 wx) => rcolof_c O OA OC t wx (HCL.out wx h))
   have HIX := Lib.hid (fun t => ixF_spec (nameIs t) O.fields)
   generalize hTB : typeB2 O = TB at HHIT HMISS HT2
   clear hTB
   obtain ⟨ot, ofs, om, ou⟩ := O
   unfold kindG at HCA
   simp only at HCL HCA HIX HKGC
   obtain ⟨no, hno⟩ : ∃ x, ofs.length = x := ⟨_, rfl⟩
   have HNO := Lib.hid hno
   rw [hno] at HCA HKGC
   clear hno
   obtain ⟨bb, bo, rfl, hbb, -, -, -, -⟩ := HKGC.out _ HB4.out
   have HGK := Lib.hid (show ∀ wx, Below w1.heap.size w1 wx -> wx.cell? ⟨bb, bo + k * 4, none⟩ = some (.string ot) /\ wx.cell? ⟨bb, bo + k * 4 + 1, none⟩ = some (.slice OA no OC) /\ wx.cell? ⟨bb, bo + k * 4 + 2, none⟩ = some (.int .i64 om) /\ wx.cell? ⟨bb, bo + k * 4 + 3, none⟩ = some (.string ou) from fun wx h => by
    obtain ⟨b2, o2, h2, -, x0, x1, x2, x3⟩ := HKGC.out wx h
    injection h2 with h2
    injection h2 with h3 h4
    subst h3 h4
    exact ⟨x0, x1, x2, x3⟩)
   obtain ⟨⟨k0, k1, k2, k3⟩, -, -⟩ := obox4 HK4.out
   clear hbb HKGC
   go_wp2_with fail
   go_loopw [27] (fun i wr => ∃ (i' : Nat), i' <= nf /\ i = .int .i64 i' /\ Hid (∀ x, x < i' -> TB (cA kfs x) = false) /\ Hid (Below w4.heap.size w4 wr)) (fun i _ => nf - (intOf i).toNat)
   case atStart => exact ⟨0, by omega, rfl, Lib.hid (fun x h => absurd h (Nat.not_lt_zero _)), Lib.hid (Below.refl _ _)⟩
   case round =>
    clear k0 k1 k2 k3
    obtain ⟨i, hi', rfl, HTI, HBI⟩ := hrel
    have hzr := HBI.out.size
    have HBW := Lib.hid (below_then HBI.out HB4.out HB4.out.size)
    rcases Nat.lt_or_ge i nf with hlt2 | hge2
    ·have hil : i < kfs.length := by rw [HNF.out]; exact hlt2
     obtain ⟨cb, co, rfl, hcb, d0, d1, d2, d3, d4, d5, d6, d7⟩ := (HCO.out _ HBW.out).cells hil
     have HH2 := Lib.hid (show TB (cA kfs i) = true -> R = true from fun h => HHIT.out (any_hit (by rw [<- cA_get hil]; exact List.getElem_mem hil) h))
     have HM2 := Lib.hid (show TB (cA kfs i) = false -> ∀ x, x < i + 1 -> TB (cA kfs x) = false from fun h x hx => by
      rcases Nat.lt_or_ge x i with h2 | h2
      ·exact HTI.out x h2
      ·obtain rfl : x = i := by omega
       exact h)
     obtain ⟨C, hC⟩ : ∃ x, cA kfs i = x := ⟨_, rfl⟩
     rw [hC] at d0 d1 d2 d3 d4 d5 d6 d7 HH2 HM2
     obtain ⟨cn, ck, cw, cl, cm, cr, ci, ce⟩ := C
     simp only at d0 d1 d2 d3 d4 d5 d6 d7
     have HTC := Lib.hid (HT2.out ⟨cn, ck, cw, cl, cm, cr, ci, ce⟩)
     have HIXC := Lib.hid (HIX.out cn)
     have HCAC := Lib.hid (fun wx h => HCA.out cn wx h)
     have HCB := Lib.hid (heap_new wr (.cells #[.string cn, .int .i64 ck, .int .i64 cw, .int .i64 cl, .int .i64 cm, .bool cr, .int .u8 ci, .bool ce] 60) rfl)
     have HB6 := Lib.hid (show Below w4.heap.size w4 (wr.alloc (.cells #[.string cn, .int .i64 ck, .int .i64 cw, .int .i64 cl, .int .i64 cm, .bool cr, .int .u8 ci, .bool ce] 60)) from HBI.out.alloc hzr _)
     clear hC hil
     go_upto_region 9 with fail
     obtain ⟨cb2, hcb2⟩ : ∃ x, wr.heap.size = x := ⟨_, rfl⟩
     rw [hcb2] at HCB
     try rw [hcb2]
     generalize wr.alloc (.cells #[.string cn, .int .i64 ck, .int .i64 cw, .int .i64 cl, .int .i64 cm, .bool cr, .int .u8 ci, .bool ce] 60) = w6 at HCB HB6 ⊢
     clear hcb2 d0 d1 d2 d3 d4 d5 d6 d7 hcb HBI HBW hzr
     have HB6w := Lib.hid (below_then HB6.out HB4.out HB4.out.size)
     have HSC := Lib.hid (show ∀ wx, Below w6.heap.size w6 wx -> (fun w' : World => w'.cell? ⟨w.heap.size + 1, 0, none⟩ = some (.int .u8 gm) /\ w'.cell? ⟨w.heap.size + 1, 1, none⟩ = some (.int .u8 gq) /\ w'.cell? ⟨w.heap.size + 1, 2, none⟩ = some (.slice (some ⟨bb, bo, none⟩) ng cq) /\ w'.cell? ⟨w.heap.size + 1, 3, none⟩ = some (.string gd) /\ w'.cell? ⟨w.heap.size + 1, 4, none⟩ = some (.string gt) /\ w'.cell? ⟨w.heap.size + 1, 5, none⟩ = some (.string gc) /\ w'.cell? ⟨w.heap.size + 1, 6, none⟩ = some (.string gs) /\ w'.cell? ⟨bb, bo + k * 4, none⟩ = some (.string ot) /\ w'.cell? ⟨bb, bo + k * 4 + 1, none⟩ = some (.slice OA no OC) /\ w'.cell? ⟨bb, bo + k * 4 + 2, none⟩ = some (.int .i64 om) /\ w'.cell? ⟨bb, bo + k * 4 + 3, none⟩ = some (.string ou) /\ w'.cell? ⟨cb2, 0, none⟩ = some (.string cn) /\ w'.cell? ⟨cb2, 1, none⟩ = some (.int .i64 ck)) wx from fun wx h => by
      have h2 := below_then h HB6w.out HB6w.out.size
      obtain ⟨⟨q0, q1, q2, q3, q4, q5, q6⟩, -⟩ := obox7 (HW.out _ h2).1
      obtain ⟨x0, x1, x2, x3⟩ := HGK.out _ h2
      obtain ⟨⟨y0, y1, y2, y3, y4, y5, y6, y7⟩, -⟩ := obox8 (heap_below HCB.out h)
      exact ⟨q0, q1, q2, q3, q4, q5, q6, x0, x1, x2, x3, y0, y1⟩)
     have T5 : Below w6.heap.size w6 w6 := Below.refl _ _
     go_region_held3 (fun w' : World => w'.cell? ⟨w.heap.size + 1, 0, none⟩ = some (.int .u8 gm) /\ w'.cell? ⟨w.heap.size + 1, 1, none⟩ = some (.int .u8 gq) /\ w'.cell? ⟨w.heap.size + 1, 2, none⟩ = some (.slice (some ⟨bb, bo, none⟩) ng cq) /\ w'.cell? ⟨w.heap.size + 1, 3, none⟩ = some (.string gd) /\ w'.cell? ⟨w.heap.size + 1, 4, none⟩ = some (.string gt) /\ w'.cell? ⟨w.heap.size + 1, 5, none⟩ = some (.string gc) /\ w'.cell? ⟨w.heap.size + 1, 6, none⟩ = some (.string gs) /\ w'.cell? ⟨bb, bo + k * 4, none⟩ = some (.string ot) /\ w'.cell? ⟨bb, bo + k * 4 + 1, none⟩ = some (.slice OA no OC) /\ w'.cell? ⟨bb, bo + k * 4 + 2, none⟩ = some (.int .i64 om) /\ w'.cell? ⟨bb, bo + k * 4 + 3, none⟩ = some (.string ou) /\ w'.cell? ⟨cb2, 0, none⟩ = some (.string cn) /\ w'.cell? ⟨cb2, 1, none⟩ = some (.int .i64 ck))
      (first | (with_reducible exact HSC.out _ T6) | (refine HSC.out _ ?_; go_grown))
      (first | (go_at_call 33; refine (HCAC.out _ (by exact ⟨HB6w.out.os, HB6w.out.tape, HB6w.out.output, HB6w.out.size, HB6w.out.block⟩)).mono ?_; rintro e w7 ⟨rfl, hb7'⟩; (have T6 : Below w6.heap.size w6 w7 := by exact ⟨hb7'.os, hb7'.tape, hb7'.output, hb7'.size, hb7'.block⟩)))
     have HB7 := Lib.hid (below_then T6 HB6w.out HB6w.out.size)
     have HB7i := Lib.hid (below_then T6 HB6.out HB6.out.size)
     obtain ⟨q0, q1, q2, q3, q4, q5, q6, x0, x1, x2, x3, y0, y1⟩ := HSC.out _ T6
     rcases HIXC.out with ⟨e1, -⟩ | ⟨ic, hic, e1, -, -⟩
     ·have HTF := Lib.hid (show TB ⟨cn, ck, cw, cl, cm, cr, ci, ce⟩ = false by rw [HTC.out, e1]; rfl)
      rw [e1]
      have td : decide ((0 : Int) <= -1) = false := by decide
      clear e1
      go_upto_region 10 with fail
      go_quiet (fail)
      go_wp2
      go_roundw
      case rel => exact ⟨i + 1, by omega, by go_num, Lib.hid (HM2.out HTF.out), Lib.hid (below_drewN HB7i.out _)⟩
      case measure => simp [intOf]; omega
     obtain ⟨ob2, oo, rfl, hob2, u0, u1, u2, u3, u4, u5, u6, u7⟩ := (HCL.out _ HB7.out).cells (j := ic) hic
     have HTI2 := Lib.hid (show TB ⟨cn, ck, cw, cl, cm, cr, ci, ce⟩ = decide ((cA ofs ic).kind ≠ ck) by rw [HTC.out, e1, decide_eq_true (show (0 : Int) <= (ic : Int) by omega), Int.toNat_natCast]; rfl)
     have hicn : ic < no := by rw [<- HNO.out]; exact hic
     have td : decide ((0 : Int) <= (ic : Int)) = true := decide_eq_true (by omega)
     rw [e1]
     obtain ⟨okd, hokd⟩ : ∃ x, (cA ofs ic).kind = x := ⟨_, rfl⟩
     rw [hokd] at u1 HTI2
     clear e1 u0 u2 u3 u4 u5 u6 u7 hokd
     by_cases hk : okd = ck
     ·have HTF := Lib.hid (show TB ⟨cn, ck, cw, cl, cm, cr, ci, ce⟩ = false by rw [HTI2.out]; exact decide_eq_false (fun h => h hk))
      have hk2 : (okd != ck) = false := by simpa using hk
      clear hk
      go_upto_region 10 with fail
      go_quiet (fail)
      go_wp2
      go_roundw
      case rel => exact ⟨i + 1, by omega, by go_num, Lib.hid (HM2.out HTF.out), Lib.hid (below_drewN HB7i.out _)⟩
      case measure => simp [intOf]; omega
     ·have HE := Lib.hid (show R = true from HH2.out (by rw [HTI2.out]; exact decide_eq_true hk))
      have hk2 : (okd != ck) = true := by simpa using hk
      clear hk
      go_upto_region 10 with fail
      go_quiet (fail)
      go_wp2
      go_ret
      exact ⟨by rw [HE.out]; rfl, (HW.out _ (below_drewN HB7.out _)).2.2.2⟩
    ·obtain rfl : i = nf := by omega
     have HM3 := Lib.hid (HMISS.out (any_miss fun x hx => by rw [cA_get hx]; exact HTI.out x (by rw [<- HNF.out]; exact hx)))
     go_wp2
     go_roundw
     case rel => exact ⟨j + 1, by omega, by go_num, HM3, HBW⟩
     case measure => simp [intOf]; omega
  ·obtain rfl : j = nk := by omega
   have HE := Lib.hid (show R = false from HR.out.symm.trans (any_miss fun x hx => by rw [kA_get hx]; exact HT.out x (by rw [<- HNK.out]; exact hx)))
   go_wp2
   go_ret
   exact ⟨by rw [HE.out]; rfl, (HW.out _ HB.out).2.2.2⟩
end Go.Proofs.YtaiabjiehpcaoaaGreatDoor
