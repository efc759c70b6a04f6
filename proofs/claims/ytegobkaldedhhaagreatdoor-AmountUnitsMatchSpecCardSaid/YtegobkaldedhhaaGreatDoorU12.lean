/- The walks of the reference: isName, namesOf, unitOf, chain. The walks of the reference: namesOf, unitOf, chain. -/
import Derived.Test.YtegobkaldedhhaaGreatDoorU10
-- merged: U11 U12

namespace Go.Proofs.YtegobkaldedhhaaGreatDoor
open Go.RowKit Limb
set_option linter.unusedVariables false
set_option linter.unusedSimpArgs false

theorem nameC_yes {c : UInt8} (h : nameC c = true) : (97 ≤ c.toNat ∧ c.toNat ≤ 122) ∨ (48 ≤ c.toNat ∧ c.toNat ≤ 57) ∨ (45 ≤ c.toNat ∧ c.toNat ≤ 45) := by
  unfold nameC lowB at h
  simp at h
  omega
theorem nameC_no {c : UInt8} (h : nameC c = false) : c.toNat < 45 ∨ (46 ≤ c.toNat ∧ c.toNat ≤ 47) ∨ (58 ≤ c.toNat ∧ c.toNat ≤ 96) ∨ 123 ≤ c.toNat := by
  unfold nameC lowB at h
  simp at h
  omega
theorem all_bad {l : List UInt8} {p : UInt8 → Bool} (h : l.all p = false) : ∃ j, ∃ hj : j < l.length, p l[j] = false ∧ ∀ i, ∀ hi : i < j, p (l[i]'(by omega)) = true := by
  induction l with
  | nil => simp at h
  | cons c l ih =>
    cases hc : p c with
    | true =>
      have h2 : l.all p = false := by simpa [hc] using h
      obtain ⟨j, hj, h3, h4⟩ := ih h2
      refine ⟨j + 1, by simpa using hj, by simpa using h3, fun i hi => ?_⟩
      cases i with
      | zero => simpa using hc
      | succ i => simpa using h4 i (by omega)
    | false => exact ⟨0, by simp, by simpa using hc, fun i hi => by omega⟩

set_option maxHeartbeats 4000000 in
set_option maxRecDepth 100000 in
theorem risname_c (s : ByteArray) (w : World) (hs : s.size ≤ 9223372036854775807) :
    Calls Tryz.prog 89 #[.string s] w (RetB (nameB s.data.toList) w) := by
  have hlen : s.data.toList.length = s.size := by simp
  by_cases h1 : 1 ≤ s.size ∧ s.size ≤ 40
  · obtain ⟨h1, h2⟩ := h1
    have hh := head_at (s := s) (by omega)
    have en : nameB s.data.toList = (lowB s[0] && s.data.toList.all nameC) := by
      unfold nameB; rw [hlen, hh, decide_eq_true ⟨h1, h2⟩, Bool.true_and]
    have hemp : s.toList.isEmpty = false := by
      rw [Lib.toList_data]
      cases hd : s.data.toList with
      | nil => rw [hd] at hlen; simp at hlen; omega
      | cons a l => rfl
    by_cases h3 : 97 ≤ s[0].toNat ∧ s[0].toNat ≤ 122
    · have en2 : nameB s.data.toList = s.data.toList.all nameC := by
        rw [en]; unfold lowB; rw [decide_eq_true h3, Bool.true_and]
      rw [en2]
      obtain ⟨h3, h4⟩ := h3
      have h3' : ¬ (s[0].toNat : Int) < 97 := by omega
      have h4' : ¬ (122 : Int) < (s[0].toNat : Int) := by omega
      clear en en2 hh h3 h4
      cases hb : s.data.toList.all nameC with
      | true =>
        have HB := Lib.hid hb
        clear hb hlen
        go_enter Tryz.func89, Tryz.ntmps89
        go_wp2
        go_loop [24] (fun i => ∃ j : Nat, j ≤ s.size ∧ i = .int .i64 j) (fun i => s.size - (intOf i).toNat)
        case atStart => exact ⟨0, Nat.zero_le _, rfl⟩
        case round =>
          obtain ⟨j, hj, rfl⟩ := hrel
          rcases Nat.lt_or_ge j s.size with hjn | hjn
          · have hc := List.all_eq_true.1 HB.out _ (List.getElem_mem (l := s.data.toList) (n := j) (by simpa using hjn))
            rw [data_get s j hjn] at hc
            rcases nameC_yes hc with ⟨k1, k2⟩ | ⟨k1, k2⟩ | ⟨k1, k2⟩
            all_goals
              clear hc h3' h4' hemp
              go_wp2
              go_round
              case rel => exact ⟨j + 1, by omega, by go_num⟩
              case measure => simp [intOf]; omega
          · go_wp2
            go_ret
            exact ⟨rfl, Below.refl _ _⟩
      | false =>
        obtain ⟨m, hm, hbad, hgood⟩ := all_bad hb
        have hm' : m < s.size := by simpa using hm
        have HBAD := Lib.hid hbad; have HGOOD := Lib.hid hgood
        clear hb hlen hbad hgood
        go_enter Tryz.func89, Tryz.ntmps89
        go_wp2
        go_loop [24] (fun i => ∃ j : Nat, j ≤ m ∧ i = .int .i64 j) (fun i => s.size - (intOf i).toNat)
        case atStart => exact ⟨0, Nat.zero_le _, rfl⟩
        case round =>
          obtain ⟨j, hj, rfl⟩ := hrel
          have hjn : j < s.size := by omega
          rcases Nat.lt_or_ge j m with hjm | hjm
          · have hc := HGOOD.out j hjm
            rw [data_get s j hjn] at hc
            rcases nameC_yes hc with ⟨k1, k2⟩ | ⟨k1, k2⟩ | ⟨k1, k2⟩
            all_goals
              clear hc h3' h4' hemp
              go_wp2
              go_round
              case rel => exact ⟨j + 1, by omega, by go_num⟩
              case measure => simp [intOf]; omega
          · obtain rfl : j = m := by omega
            have hc := HBAD.out
            rw [data_get s j hjn] at hc
            have hne : ((s[j].toNat : Int) != 45) = true := by
              have := nameC_no hc
              simp; omega
            rcases nameC_no hc with k1 | ⟨k1, k2⟩ | ⟨k1, k2⟩ | k1
            all_goals
              clear hc h3' h4' hemp
              go_wp2
              go_ret
              exact ⟨rfl, Below.refl _ _⟩
    · have en2 : nameB s.data.toList = false := by rw [en]; unfold lowB; rw [decide_eq_false h3]; rfl
      rw [en2]
      clear en en2 hh hlen
      by_cases h4 : s[0].toNat < 97
      · have h4' : (s[0].toNat : Int) < 97 := by omega
        clear h3
        go_enter Tryz.func89, Tryz.ntmps89
        go_wp2
        go_ret
        exact ⟨rfl, Below.refl _ _⟩
      · have h4' : ¬ (s[0].toNat : Int) < 97 := by omega
        have h5' : (122 : Int) < (s[0].toNat : Int) := by omega
        clear h3 h4
        go_enter Tryz.func89, Tryz.ntmps89
        go_wp2
        go_ret
        exact ⟨rfl, Below.refl _ _⟩
  · have en : nameB s.data.toList = false := by unfold nameB; rw [hlen, decide_eq_false h1]; rfl
    rw [en]
    clear en
    by_cases h2 : s.size < 1
    · have hemp : s.toList.isEmpty = true := by
        rw [Lib.toList_data]
        cases hd : s.data.toList with
        | nil => rfl
        | cons a l => rw [hd] at hlen; simp at hlen; omega
      clear h1 hlen
      go_enter Tryz.func89, Tryz.ntmps89
      go_wp2
      go_ret
      exact ⟨rfl, Below.refl _ _⟩
    · have hemp : s.toList.isEmpty = false := by
        rw [Lib.toList_data]
        cases hd : s.data.toList with
        | nil => rw [hd] at hlen; simp at hlen; omega
        | cons a l => rfl
      have h3 : 40 < s.size := by omega
      clear h1 hlen
      go_enter Tryz.func89, Tryz.ntmps89
      go_wp2
      go_ret
      exact ⟨rfl, Below.refl _ _⟩
end Go.Proofs.YtegobkaldedhhaaGreatDoor

namespace Go.Proofs.YtegobkaldedhhaaGreatDoor
open Go.RowKit Limb
set_option linter.unusedVariables false
set_option linter.unusedSimpArgs false

theorem Tryz.info9 : (Tryz.prog.info? 9).map (fun i => (i.zero, i.size, i.bytes)) = some (some (.string ⟨#[]⟩), 1, 16) := by kernel_rfl
def nmV (us : List Unt) (k : Nat) : List Value := (us.take k).map fun u => Value.string u.name
theorem nmV_step {us : List Unt} {k : Nat} (h : k < us.length) : nmV us (k + 1) = nmV us k ++ [.string (uA us k).name] := by
  unfold nmV
  rw [List.take_succ_eq_append_getElem h, List.map_append, uA_get h]; rfl
/-- Strings as they lie in memory. -/
def Strs (w : World) (A : Option Addr) (n : Nat) (us : List Unt) : Prop :=
  0 < n → ∃ g, A = some ⟨g, 0, none⟩ ∧ g < w.heap.size ∧ ∀ j, j < n → w.cell? ⟨g, j, none⟩ = some (.string (uA us j).name)
theorem Strs.of_own {w : World} {B n c : Nat} {A : Option Addr} {us : List Unt} (h : w.ownsRow B 9 1 (.slice A n c) n (nmV us n)) (hl : us.length = n) : Strs w A n us := by
  intro h0
  rcases h.2 with ⟨hv, hn⟩ | ⟨g, cap, cur, hv, hb, hh, _⟩
  · omega
  · injection hv with e1 e2 e3
    subst e1
    refine ⟨g, rfl, lt_heap hh, fun j hj => ?_⟩
    rw [h.cellAt j (by omega)]
    unfold nmV
    rw [List.getElem?_map, List.take_of_length_le (by omega), List.getElem?_eq_getElem (by omega), uA_get]; rfl

set_option maxHeartbeats 4000000 in
set_option maxRecDepth 100000 in
theorem namesof_c (us : List Unt) (A : Option Addr) (n c : Nat) (w : World) (hU : Uns w A n us) (hn : n ≤ 200) :
    Calls Tryz.prog 91 #[.slice A n c] w fun e w' => Below w.heap.size w w' ∧ ∃ B d, e = .returned (.slice B n d) ∧ Strs w' B n us := by
  obtain ⟨i0, hi0, hz0, hz1, hz2⟩ := info_parts Tryz.info9
  have HL := Lib.hid hU.1
  have HU := Lib.hid hU; clear hU
  go_enter Tryz.func91, Tryz.ntmps91
  go_wp2
  go_loopw [3, 8] (fun v3 v8 wr => ∃ (j : Nat) (B : Option Addr) (d : Nat), j ≤ n ∧ v3 = .slice B j d ∧ v8 = .int .i64 (j : Int) ∧ wr.ownsRow w.heap.size 9 1 (.slice B j d) j (nmV us j) ∧ Below w.heap.size w wr) (fun _ v8 _ => n - (intOf v8).toNat)
  case atStart => exact ⟨0, none, 0, Nat.zero_le _, rfl, rfl, World.ownsRow_nil _ _ _ _, Below.refl _ _⟩
  case round =>
    obtain ⟨j, B, d, hj, rfl, rfl, hown, hbel⟩ := hrel
    have hzr := hbel.size
    rcases Nat.lt_or_ge j n with hjn | hjn
    · obtain ⟨b, off, rfl, hbl, hx0, hx1, hx2, hx3⟩ := (HU.out.below hbel).at_ hjn
      have HST := Lib.hid (nmV_step (us := us) (k := j) (by rw [HL.out]; exact hjn))
      have hown1 := hown.alloc (.cells #[.string (uA us j).name, .string (uA us j).of, .int .i64 (uA us j).num, .int .i64 (uA us j).den] 69)
      have hb1 := hbel.alloc hzr (.cells #[.string (uA us j).name, .string (uA us j).of, .int .i64 (uA us j).num, .int .i64 (uA us j).den] 69)
      have HW := uBox wr (uA us j) 69 _ rfl
      clear hown hbel
      go_upto_region 5 with fail
      generalize wr.alloc (.cells #[.string (uA us j).name, .string (uA us j).of, .int .i64 (uA us j).num, .int .i64 (uA us j).den] 69) = w1 at HW hown1 hb1 ⊢
      obtain ⟨c0, c1, c2, c3, -, hz1'⟩ := HW
      have hz3 := hb1.size
      go_wp2_with (at_builtin; refine wpList_push_own rfl _ _ 113 rfl w.heap.size 9 i0 (.string ⟨#[]⟩) 16 Tryz.underlying113 hi0 hz0 hz1 hz2 rfl (.slice B j d) j (nmV us j) rfl hown1 (.string (uA us j).name) rfl rfl (by unfold maxLen; omega) (by omega) hz3 ?_; intro B3 d3 w3 hown3 hg3; have hB3 := hb1.grown hg3 hz3 (own_ge hown1))
      go_roundw
      case rel =>
        rw [← HST.out] at hown3
        exact ⟨j + 1, B3, d3, by omega, rfl, by go_num, hown3, hB3⟩
      case measure => simp [intOf]; omega
    · obtain rfl : j = n := by omega
      go_wp2
      go_ret
      exact ⟨hbel, B, d, rfl, Strs.of_own hown HL.out⟩

/-- Where a unit is; -1: nowhere. -/
def ixU (us : List Unt) (x : List UInt8) : Int := match idxU us x with
  | some i => (i : Int)
  | none => -1
theorem nm_eq {us : List Unt} {j : Nat} {x : ByteArray} : (uA us j).name = x ↔ nmU us j = x.data.toList := by
  unfold nmU
  constructor
  · rintro rfl; rfl
  · intro h
    have : (uA us j).name.data = x.data := Array.toList_inj.1 h
    cases h1 : (uA us j).name; cases x
    rw [h1] at this
    simp at this
    rw [this]
theorem ixU_idx {us : List Unt} {x : ByteArray} (zs : List ByteArray) (hz : zs = us.map (·.name)) : Lib.idxOfS (zs.take us.length) x = ixU us x.data.toList := by
  have hg : ∀ j, j < us.length → zs.getD j ByteArray.empty = (uA us j).name := by
    intro j hj
    rw [hz, List.getD_eq_getElem?_getD, List.getElem?_map, List.getElem?_eq_getElem hj, uA_get hj]; rfl
  unfold ixU
  cases h : idxU us x.data.toList with
  | none =>
    refine Lib.idxOfS_miss zs us.length x fun j hj => ?_
    rw [hg j hj]
    intro e
    exact idxU_none h j hj (nm_eq.1 e)
  | some i =>
    obtain ⟨hi, he⟩ := idxU_some h
    refine Lib.idxOfS_hit zs us.length i x hi (by rw [hz]; simp) (by rw [hg i hi]; exact nm_eq.2 he) fun j hj => ?_
    rw [hg j (by omega)]
    intro e
    unfold idxU at h
    rw [List.findIdx?_eq_some_iff_getElem] at h
    obtain ⟨h1, h2, h3⟩ := h
    have := h3 j hj
    rw [uA_get (by omega)] at this
    exact this (by rw [e]; simp)

set_option maxHeartbeats 1000000 in
theorem unitof_c (us : List Unt) (x : ByteArray) (A : Option Addr) (n c : Nat) (w : World) (hU : Uns w A n us) (hn : n ≤ 200) :
    Calls Tryz.prog 38 #[.slice A n c, .string x] w (RetI (ixU us x.data.toList) w) := by
  have HL := Lib.hid hU.1
  go_enter Tryz.func38, Tryz.ntmps38
  go_wp2_with fail
  refine (namesof_c us A n c _ hU hn).mono ?_
  rintro e w1 ⟨hb1, B, d, rfl, hS⟩
  rcases Nat.eq_zero_or_pos n with h0 | h0
  · subst h0
    have hx : ixU us x.data.toList = -1 := by
      have : us = [] := List.length_eq_zero_iff.1 HL.out
      rw [this]; rfl
    have HX := Lib.hid hx; clear hx hS
    go_wp2_with fail
    refine (Tryz.slices_Index_string_empty B d x _).mono ?_
    rintro e w2 ⟨rfl, rfl⟩
    go_wp2
    go_ret
    exact ⟨by rw [HX.out]; rfl, hb1⟩
  · obtain ⟨g, rfl, hg, hc⟩ := hS h0
    have HX := Lib.hid (ixU_idx (x := x) (us.map (·.name)) rfl)
    have HC := Lib.hid hc
    clear hc hS
    go_wp2_with fail
    refine (Tryz.slices_Index_string g 0 n d (us.map (·.name)) x _ (by simp; have := HL.out; omega) (by omega) (fun j hj => ?_)).mono ?_
    · have hj' : j < us.length := by simpa using hj
      have := HL.out
      rw [Nat.zero_add, HC.out j (by omega), List.getD_eq_getElem?_getD, List.getElem?_map, List.getElem?_eq_getElem hj', uA_get hj']; rfl
    · rintro e w2 ⟨rfl, rfl⟩
      have hx := HX.out
      rw [HL.out] at hx
      have HX2 := Lib.hid hx
      clear hx
      go_wp2
      go_ret
      exact ⟨by rw [← HX2.out]; rfl, hb1⟩

/-! ### chain -/
theorem chain_end {us : List Unt} {f k : Nat} (h : nxtU us k = none) : chainF (nxtU us) f k = some [k] := by
  cases f <;> simp [chainF, h]
theorem chain_zero {us : List Unt} {j k : Nat} (h : nxtU us k = some j) : chainF (nxtU us) 0 k = none := by simp [chainF, h]
theorem chain_more {us : List Unt} {f j k : Nat} (h : nxtU us k = some j) : chainF (nxtU us) (f + 1) k = (chainF (nxtU us) f j).map (k :: ·) := by simp [chainF, h]
def ChR (us : List Unt) (i : Nat) (w : World) (e : Ending) (w' : World) : Prop :=
  Below w.heap.size w w' ∧ ((chainU us i = none ∧ e = .returned (.tuple #[.slice none 0 0, .bool false])) ∨
    ∃ l A c, chainU us i = some l ∧ 0 < l.length ∧ l.length ≤ us.length + 1 ∧ e = .returned (.tuple #[.slice A l.length c, .bool true]) ∧ Dig w' .i64 3 A l.length l)

set_option maxHeartbeats 4000000 in
set_option maxRecDepth 100000 in
theorem chain_c (us : List Unt) (A : Option Addr) (n c i : Nat) (w : World) (hU : Uns w A n us) (hn : n ≤ 200) (hk : ∀ j, j < n → knownU us j = true) (hi : i < n) :
    Calls Tryz.prog 39 #[.slice A n c, .int .i64 (i : Int)] w (ChR us i w) := by
  obtain ⟨i0, hi0, hz0, hz1, hz2⟩ := info_parts Tryz.info3
  have HL := Lib.hid hU.1; have HK := Lib.hid hk; clear hk
  have HU := Lib.hid hU; clear hU
  go_enter Tryz.func39, Tryz.ntmps39
  go_wp2
  go_loopw [1, 6] (fun v1 v6 wr => ∃ (l : List Nat) (k f : Nat) (B : Option Addr) (d : Nat), v1 = .int .i64 (k : Int) ∧ v6 = .slice B (l.length + 1) d ∧ k < n ∧ l.length + f = n ∧ Hid (chainU us i = (chainF (nxtU us) f k).map (l ++ ·)) ∧
      wr.ownsRow w.heap.size 3 1 (.slice B (l.length + 1) d) (l.length + 1) (digV .i64 (l ++ [k])) ∧ Below w.heap.size w wr) (fun _ v6 _ => n + 2 - slen v6)
  case atStart =>
    refine ⟨[], i, n, some ⟨w.heap.size, 0, none⟩, 1, rfl, rfl, hi, by simp, Lib.hid ?_, ?_, by go_grown⟩
    · unfold chainU; rw [HL.out]; simp
    · exact World.ownsRow_lit w #[.int .i64 (i : Int)] 1 (Nat.le_refl _) (by unfold maxLen; omega) rfl
  case round =>
    obtain ⟨l, k, f, B, d, rfl, rfl, hkn, hlf, HG, hown, hbel⟩ := hrel
    have hzr := hbel.size
    obtain ⟨b, off, rfl, hbl, hx0, hx1, hx2, hx3⟩ := (HU.out.below hbel).at_ hkn
    cases he : (uA us k).of.toList.isEmpty with
    | true =>
      have hnx : nxtU us k = none := by unfold nxtU; rw [if_pos (of_empty.1 he)]
      have HC := Lib.hid (HG.out.trans (by rw [chain_end hnx]; rfl : _ = some (l ++ [k])))
      have hl2 : l.length ≤ 200 := by omega
      have HLF := Lib.hid hlf
      clear hnx hlf
      go_wp2
      go_ret2
      refine ⟨hbel, .inr ⟨l ++ [k], B, d, HC.out, by simp, ?_, by simp, ?_⟩⟩
      · have := HLF.out; have := HL.out; simp; omega
      · have := Dig.of_own hown
        simpa using this
    | false =>
      have hne : ofU us k ≠ [] := fun g => by rw [of_empty.2 g] at he; cases he
      obtain ⟨j, hj⟩ : ∃ j, idxU us (ofU us k) = some j := by
        have := HK.out k hkn
        unfold knownU at this
        have h2 : (ofU us k).isEmpty = false := by simpa using hne
        rw [h2] at this
        exact Option.isSome_iff_exists.1 (by simpa using this)
      have hnx : nxtU us k = some j := by unfold nxtU; rw [if_neg hne, hj]
      have hjn : j < n := by rw [← HL.out]; exact (idxU_some hj).1
      have HIX := Lib.hid (show ixU us (uA us k).of.data.toList = (j : Int) by
        have h2 : idxU us (uA us k).of.data.toList = some j := hj
        unfold ixU; rw [h2])
      have hl2 : l.length ≤ 200 := by omega
      have HNX := Lib.hid hnx
      clear hj hnx hne
      go_wp2_with fail
      refine (unitof_c us _ _ n c _ (HU.out.below hbel) hn).mono ?_
      rintro e w2 ⟨rfl, hb2⟩
      rw [HIX.out]
      have hown2 := own_below hown hb2
      have hbel2 := below_then hb2 hbel hzr
      have hz2' := hbel2.size
      clear hown
      rcases Nat.eq_zero_or_pos f with hf | hf
      · have HC := Lib.hid (HG.out.trans (by rw [hf, chain_zero HNX.out]; rfl : _ = none))
        have hgt : n < l.length + 1 := by omega
        clear hf hlf
        go_wp2
        go_ret2
        exact ⟨hbel2, .inl ⟨HC.out, rfl⟩⟩
      · obtain ⟨f', hf'⟩ : ∃ f', f = f' + 1 := ⟨f - 1, by omega⟩
        have HC := Lib.hid (HG.out.trans (show (chainF (nxtU us) f k).map (l ++ ·) = (chainF (nxtU us) f' j).map (l ++ [k] ++ ·) by
          rw [hf', chain_more HNX.out]
          cases chainF (nxtU us) f' j <;> simp))
        have hgt : ¬ n < l.length + 1 := by omega
        have HF := Lib.hid (show (l ++ [k]).length + f' = n by simp; omega)
        clear hf' hf hlf
        go_wp2_with (at_builtin; refine wpList_push_own rfl _ _ 49 rfl w.heap.size 3 i0 (.int .i64 0) 8 Tryz.underlying49 hi0 hz0 hz1 hz2 rfl (.slice B (l.length + 1) d) (l.length + 1) (digV .i64 (l ++ [k])) rfl hown2 (.int .i64 (j : Int)) rfl rfl (by unfold maxLen; omega) (by omega) hz2' ?_; intro B3 d3 w3 hown3 hg3; have hB3 := hbel2.grown hg3 hz2' (own_ge hown2))
        go_roundw
        case rel =>
          rw [← digV_snoc] at hown3
          exact ⟨l ++ [k], j, f', B3, d3, rfl, by simp, hjn, HF.out, HC, by simpa using hown3, hB3⟩
        case measure => simp [slen]; omega
end Go.Proofs.YtegobkaldedhhaaGreatDoor
