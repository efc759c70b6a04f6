/- Archive's walks: Clone of records, Dropped. Plain: the words of a right record's line, and the lines of records' text. -/
import Derived.Test.YtcfhaljkemaefaaGreatDoorARC
import Derived.Test.YtcfhaljkemaefaaGreatDoorZP
import Derived.Test.YtcfhaljkemaefaaGreatDoorAR5
import Derived.Test.YtcfhaljkemaefaaGreatDoorE2
-- merged: ARD AR2

namespace Go.Proofs.YtcfhaljkemaefaaGreatDoor
open Go.RowKit Limb Nmb Work
set_option linter.unusedVariables false
set_option linter.unusedSimpArgs false

theorem Tryz.infoRec : (Tryz.prog.info? 45).map (fun i => (i.zero, i.size, i.bytes)) = some (some (.agg #[.int .i64 0, .string ⟨#[]⟩, .string ⟨#[]⟩, .string ⟨#[]⟩, .bool false, .string ⟨#[]⟩]), 6, 80) := by kernel_rfl
theorem recsV_one (n : Nat) (l : List Rec) : ∀ u ∈ rowsC 6 n (recV l), u.oneCell' = true := by
  intro u hu
  unfold rowsC at hu
  obtain ⟨j, -, hj⟩ := List.mem_flatMap.1 hu
  obtain ⟨i, -, rfl⟩ := List.mem_map.1 hj
  unfold recV
  split <;> rfl
theorem lit_ownR (w : World) (T : TypeId) (k : Nat) : (w.alloc (.cells #[] T)).ownsRow w.heap.size T k (.slice (some ⟨w.heap.size, 0, none⟩) 0 0) 0 [] := World.ownsRow_lit w #[] 0 (Nat.le_refl _) (by unfold maxLen; omega) (by simp)
def RetCl (l : List Rec) (w : World) (e : Ending) (w' : World) : Prop := ∃ X d, e = .returned (.slice X l.length d) ∧ w'.ownsRow w.heap.size 45 6 (.slice X l.length d) l.length (rowsC 6 l.length (recV l)) ∧ Below w.heap.size w w'
set_option maxHeartbeats 1000000 in
set_option maxRecDepth 100000 in
theorem cloneRec_c (l : List Rec) (A : Option Addr) (c : Nat) (w : World) (hs : Recs w A l) (hz : l.length ≤ 1000000) :
    Calls Tryz.prog 15 #[.slice A l.length c] w (RetCl l w) := by
  obtain ⟨i0, hi, hz0, hz1, hz2⟩ := info_parts Tryz.infoRec
  obtain ⟨n, hn⟩ : ∃ x, l.length = x := ⟨_, rfl⟩
  unfold RetCl
  unfold Recs at hs
  rw [hn] at hz hs ⊢
  have HN := Lib.hid hn
  clear hn
  have HS := Lib.hid hs
  clear hs
  cases A with
  | none =>
    have h0 : n = 0 := by
      rcases Nat.eq_zero_or_pos n with h | h
      · exact h
      · obtain ⟨b, off, e, -⟩ := HS.out h
        cases e
    subst h0
    have hnil : ∀ w, (binOp .eql 22 (.slice none 0 c) (.slice none 0 0)).run Tryz.prog w = .ok (.bool true) w := fun w => Lib.run_eql_slice_nil w _ _ _ _ _ _ _ Tryz.underlying22
    go_enter Tryz.func15, Tryz.ntmps15
    go_wp2
    go_ret
    exact ⟨none, 0, rfl, World.ownsRow_nil _ _ _ _, Below.refl _ _⟩
  | some a =>
    have hnil : ∀ w, (binOp .eql 22 (.slice (some a) n c) (.slice none 0 0)).run Tryz.prog w = .ok (.bool false) w := fun w => Lib.run_eql_slice_nil w _ _ _ _ _ _ _ Tryz.underlying22
    go_enter Tryz.func15, Tryz.ntmps15
    go_wp2_with (first
      | (at_builtin; refine wpList_zapp rfl _ _ 22 rfl w.heap.size 45 i0 (.agg #[.int .i64 0, .string ⟨#[]⟩, .string ⟨#[]⟩, .string ⟨#[]⟩, .bool false, .string ⟨#[]⟩]) 6 80 Tryz.underlying22 hi hz0 hz1 hz2 rfl (by omega) (some ⟨w.heap.size, 0, none⟩) 0 0 [] rfl (lit_ownR w 45 6) (some a) n c (rowsC 6 n (recV l)) ?c1 rfl ?c2 (recsV_one n l) ?c3 ?c4 ?c5 ?_))
    case c1 => exact rowsC_len _ _ _
    case c2 =>
      intro hp
      obtain ⟨b, off, e, hb, hc⟩ := HS.out hp
      refine ⟨b, off, e, fun j u hj => ?_⟩
      have hlt : j < n * 6 := by
        rcases Nat.lt_or_ge j (n * 6) with h | h
        · exact h
        · rw [List.getElem?_eq_none (by rw [rowsC_len]; exact h)] at hj; cases hj
      have hj2 : j / 6 * 6 + j % 6 = j := by omega
      have h1 := rowsC_at (k := 6) (f := recV l) (n := n) (j := j / 6) (i := j % 6) (by omega) (by omega)
      rw [hj2] at h1
      have h2 := hc (j / 6) (by omega) (j % 6) (by omega)
      rw [Nat.add_assoc, hj2] at h2
      have h3 : u = recV l (j / 6) (j % 6) := Option.some.inj (hj.symm.trans h1)
      rw [h3]
      exact (World.cell?_alloc_some w _ _ (by rw [h2]; rfl)).trans h2
    case c3 => unfold maxLen; omega
    case c4 => omega
    case c5 => simp
    intro X d w1 hown hg
    have hb : Below w.heap.size w w1 := ((Below.refl _ _).alloc (Nat.le_refl _) _).grown hg (by simp) (by intro k hk; simp [Value.ownBlock] at hk; omega)
    try rw [Nat.zero_add] at hown
    try rw [List.nil_append] at hown
    have HO := Lib.hid hown
    clear hg hown
    try rw [Nat.zero_add]
    go_wp2
    go_ret
    exact ⟨X, d, by first | rfl | simp, HO.out, hb⟩

/-- The records up to a place without their texts, if they are old. -/
def dropJ (before : Int) (l : List Rec) (j : Nat) (a b : Nat) : Value := if a < j then recV (dropL before l) a b else recV l a b
theorem dropJ_zero (before : Int) (l : List Rec) : dropJ before l 0 = recV l := by funext a b; unfold dropJ; rw [if_neg (Nat.not_lt_zero _)]
theorem dropJ_all (before : Int) (l : List Rec) {n a b : Nat} (h : a < n) : dropJ before l n a b = recV (dropL before l) a b := by unfold dropJ; rw [if_pos h]
theorem dropJ_at (before : Int) (l : List Rec) (j b : Nat) : dropJ before l j j b = recV l j b := by unfold dropJ; rw [if_neg (Nat.lt_irrefl _)]
theorem dropJ_skip {before : Int} {l : List Rec} {j : Nat} (hj : j < l.length) (h : ¬ (arA l j).time < before) (a b : Nat) : dropJ before l (j + 1) a b = dropJ before l j a b := by
  unfold dropJ
  by_cases h1 : a < j
  · rw [if_pos (by omega), if_pos h1]
  · rw [if_neg h1]
    by_cases h2 : a = j
    · subst h2
      rw [if_pos (by omega)]
      unfold recV
      rw [drop_get before hj]
      unfold dropR
      rw [if_neg h]
    · rw [if_neg (by omega)]
theorem dropJ_put {before : Int} {l : List Rec} {j : Nat} (hj : j < l.length) (h : (arA l j).time < before) (a b : Nat) (hb : b < 6) : dropJ before l (j + 1) a b = if a = j ∧ b = 5 then .string ⟨#[]⟩ else if a = j ∧ b = 4 then .bool true else dropJ before l j a b := by
  unfold dropJ
  by_cases h2 : a = j
  · subst h2
    rw [if_pos (show a < a + 1 by omega), if_neg (Nat.lt_irrefl a)]
    unfold recV
    rw [drop_get before hj]
    unfold dropR
    rw [if_pos h]
    rcases b with _ | _ | _ | _ | _ | _ | b
    · simp
    · simp
    · simp
    · simp
    · simp
    · simp
    · omega
  · rw [if_neg (fun k : a = j ∧ b = 5 => h2 k.1), if_neg (fun k : a = j ∧ b = 4 => h2 k.1)]
    by_cases h1 : a < j
    · rw [if_pos (show a < j + 1 by omega), if_pos h1]
    · rw [if_neg (show ¬ a < j + 1 by omega), if_neg h1]
/-- The own row of records, up to a place without their old texts. -/
def DpO (B : Nat) (A : Option Addr) (d : Nat) (before : Int) (l : List Rec) (j : Nat) (w : World) : Prop := w.ownsRow B 45 6 (.slice A l.length d) l.length (rowsC 6 l.length (dropJ before l j))
theorem dropL_len (before : Int) (l : List Rec) : (dropL before l).length = l.length := by unfold dropL; simp
theorem DpO.done {B : Nat} {A : Option Addr} {d : Nat} {before : Int} {l : List Rec} {w : World} (h : DpO B A d before l l.length w) : Recs w A (dropL before l) := by
  unfold Recs
  rw [dropL_len]
  refine own_rwsZ h fun j hj i hi => ?_
  rw [rowsC_at hj hi, dropJ_all before l hj]
theorem drop_recZ {before : Int} {l : List Rec} (h : ∀ j, j < l.length → RecZ (arA l j)) : ∀ j, j < (dropL before l).length → RecZ (arA (dropL before l) j) := by
  intro j hj
  rw [dropL_len] at hj
  rw [drop_get before hj]
  obtain ⟨h1, h2, h3⟩ := drop_body before (arA l j)
  obtain ⟨k1, k2, k3, k4⟩ := h j hj
  refine ⟨by rw [h1]; exact k1, by rw [h2]; exact k2, ?_, by rw [h3]; exact k4⟩
  unfold dropR
  split
  · show (0 : Nat) ≤ _; omega
  · exact k3
def drpN (l : List Rec) (before : Int) : Int := if arcF dgsL l ≠ 0 then arcF dgsL l else if ¬ (0 ≤ before ∧ before ≤ 2000000000000000) then 1 else 0
/-- What Dropped answers. -/
def RetDp (l : List Rec) (before : Int) (w : World) (e : Ending) (w' : World) : Prop :=
  (drpN l before ≠ 0 ∧ e = .returned (.tuple #[.slice none 0 0, .int .i64 (drpN l before)]) ∧ Below w.heap.size w w') ∨
  (drpN l before = 0 ∧ ∃ X d, e = .returned (.tuple #[.slice X l.length d, .int .i64 0]) ∧ l.length ≤ d ∧ RecsZ w' X (dropL before l) ∧ Below w.heap.size w w')
theorem own_len {w : World} {B : Nat} {e : TypeId} {size n : Nat} {A : Option Addr} {c : Nat} {xs : List Value} (h : w.ownsRow B e size (.slice A n c) n xs) : n ≤ c := by
  rcases h.2 with ⟨h1, h2⟩ | ⟨g, cap, cur, hv, -, -, h3, -⟩
  · cases h1; omega
  · cases hv; exact h3
set_option maxHeartbeats 2000000 in
set_option maxRecDepth 100000 in
theorem dropped_c (A : Option Addr) (c : Nat) (l : List Rec) (before : Int) (w : World) (hn : l.length ≤ 9223372036854775807) (hl : RecsZ w A l) (hz : ZCell w) :
    Calls Tryz.prog 7 #[.slice A l.length c, .int .i64 before] w (RetDp l before w) := by
  have HCK := Lib.hid (chkarc_c A c l w hn hl hz)
  have HL := Lib.hid hl
  obtain ⟨m, hm⟩ : ∃ m, l.length = m := ⟨_, rfl⟩
  have HM := Lib.hid hm
  by_cases h0 : arcF dgsL l = 0
  case neg =>
    obtain ⟨F, hF⟩ : ∃ F, arcF dgsL l = F := ⟨_, rfl⟩
    have HN := Lib.hid (show drpN l before = F by unfold drpN; rw [if_pos h0, hF])
    rw [hF] at HCK h0
    rw [hm] at HCK ⊢
    have hf' : (F == 0) = false := by simpa using h0
    have H0 := Lib.hid h0
    clear hn hl hz hm hF h0
    go_enter Tryz.func7, Tryz.ntmps7
    go_wp2_with fail
    refine HCK.out.mono ?_
    rintro e w1 ⟨rfl, hb1⟩
    go_wp2
    go_ret2
    exact .inl ⟨by rw [HN.out]; exact H0.out, by rw [HN.out]; rfl, hb1⟩
  have HLN := Lib.hid (arc_recs h0).1
  rw [h0] at HCK
  by_cases h1 : 0 ≤ before ∧ before ≤ 2000000000000000
  case neg =>
    have HN := Lib.hid (show drpN l before = 1 by unfold drpN; rw [if_neg (fun k => k h0), if_pos h1])
    have HO := Lib.hid (fun w => out_yes before 0 2000000000000000 w h1)
    rw [hm] at HCK ⊢
    clear hn hl hz hm h0 h1
    go_enter Tryz.func7, Tryz.ntmps7
    go_wp2_with fail
    refine HCK.out.mono ?_
    rintro e w1 ⟨rfl, hb1⟩
    go_wp2_with fail
    refine (HO.out _).mono ?_
    rintro e w2 ⟨rfl, rfl⟩
    go_wp2
    go_ret2
    exact .inl ⟨by rw [HN.out]; decide, by rw [HN.out]; rfl, hb1⟩
  have HN := Lib.hid (show drpN l before = 0 by unfold drpN; rw [if_neg (fun k => k h0), if_neg (fun k => k h1)])
  have HO := Lib.hid (fun w => out_no before 0 2000000000000000 w h1)
  have HCL := Lib.hid (fun w' (hb : Below w.heap.size w w') => cloneRec_c l A c w' (hl.below hb).2 (by have := HLN.out; omega))
  have hm2 : m ≤ 2000 := by have := HLN.out; omega
  rw [hm] at HCK HCL ⊢
  clear hn hl hz hm h0 h1
  go_enter Tryz.func7, Tryz.ntmps7
  go_wp2_with fail
  refine HCK.out.mono ?_
  rintro e w1 ⟨rfl, hb1⟩
  go_wp2_with fail
  refine (HO.out _).mono ?_
  rintro e w2 ⟨rfl, rfl⟩
  go_wp2_with fail
  refine (HCL.out _ hb1).mono ?_
  unfold RetCl
  rw [HM.out]
  rintro e w2 ⟨X, d, rfl, hown, hb2⟩
  have hB2 := below_then hb2 hb1 hb1.size
  have HDO := Lib.hid (show DpO w1.heap.size X d before l 0 w2 by unfold DpO; rw [dropJ_zero, HM.out]; exact hown)
  have hsz1 : w.heap.size ≤ w1.heap.size := hb1.size
  have HMD := Lib.hid (own_len hown)
  clear hb1 hb2 hown
  go_wp2
  go_loopw [21] (fun i wr => ∃ k : Nat, k ≤ m ∧ i = .int .i64 k ∧ Hid (Below w.heap.size w wr) ∧ Hid (DpO w1.heap.size X d before l k wr)) (fun i _ => m - (intOf i).toNat)
  case atStart => exact ⟨0, Nat.zero_le _, rfl, Lib.hid hB2, HDO⟩
  case round =>
    obtain ⟨k, hk, rfl, HB, HD⟩ := hrel
    rcases Nat.lt_or_ge k m with hlt | hge
    · have hltj : k < l.length := by rw [HM.out]; exact hlt
      have hD := HD.out
      unfold DpO at hD
      rw [HM.out] at hD
      obtain ⟨g, rfl, hbg, hgs, hc⟩ := own_rowF hD (by omega)
      have hcc : ∀ i, i < 6 → wr.cell? ⟨g, k * 6 + i, none⟩ = some (recV l k i) := fun i hi => by
        rw [hc _ (by omega), rowsC_at hlt hi, dropJ_at]
      have c0 := hcc 0 (by decide); have c1 := hcc 1 (by decide); have c2 := hcc 2 (by decide); have c3 := hcc 3 (by decide); have c4 := hcc 4 (by decide); have c5 := hcc 5 (by decide)
      have f4 : wr.frozen? ⟨g, k * 6 + 4, none⟩ = false := hD.frozenAt _
      have f5 : wr.frozen? ⟨g, k * 6 + 5, none⟩ = false := hD.frozenAt _
      simp only [recV, Nat.add_zero] at c0 c1 c2 c3 c4 c5
      have HDD := Lib.hid hD
      have HGS := Lib.hid (show w.heap.size ≤ g by omega)
      obtain ⟨x, hx⟩ : ∃ x, arA l k = x := ⟨_, rfl⟩
      rw [hx] at c0 c1 c2 c3 c4 c5
      have HX := Lib.hid hx
      clear hcc hc hx hD
      obtain ⟨t, kd, ky, dg, dp, tx⟩ := x
      dsimp only at c0 c1 c2 c3 c4 c5
      have HT := Lib.hid (show (arA l k).time = t by rw [HX.out])
      by_cases hold : t < before
      · have hB4 := (HB.out.setCell (p := ⟨g, k * 6 + 4, none⟩) HGS.out (.bool true)).setCell (p := ⟨g, k * 6 + 5, none⟩) HGS.out (.string ⟨#[]⟩)
        have hB5 := Lib.hid (hB4.alloc hB4.size (.cells #[.int .i64 t, .string kd, .string ky, .string dg, .bool dp, .string tx] 45))
        have hD5 := Lib.hid ((own_setAt (own_setAt HDD.out (show k * 6 + 4 < m * 6 by omega) (.bool true)) (show k * 6 + 5 < m * 6 by omega) (.string ⟨#[]⟩)).alloc (.cells #[.int .i64 t, .string kd, .string ky, .string dg, .bool dp, .string tx] 45))
        have HD6 := Lib.hid (show rowsC 6 m (dropJ before l (k + 1)) = ((rowsC 6 m (dropJ before l k)).set (k * 6 + 4) (.bool true)).set (k * 6 + 5) (.string ⟨#[]⟩) by
          rw [rowsC_set _ hlt (by decide), rowsC_set _ hlt (by decide)]
          exact rowsC_congr fun a ha b hb => dropJ_put hltj (by rw [HT.out]; exact hold) a b hb)
        clear hB4 hltj
        go_wp2
        go_roundw
        case rel => exact ⟨k + 1, by omega, by go_num, Lib.hid hB5.out, Lib.hid (by unfold DpO; rw [HM.out, HD6.out]; exact hD5.out)⟩
        case measure => simp [intOf]; omega
      · have hB3 := Lib.hid (show Below w.heap.size w (wr.alloc (.cells #[.int .i64 t, .string kd, .string ky, .string dg, .bool dp, .string tx] 45)) from HB.out.alloc HB.out.size _)
        have hD3 := Lib.hid (HDD.out.alloc (.cells #[.int .i64 t, .string kd, .string ky, .string dg, .bool dp, .string tx] 45))
        have HD6 := Lib.hid (show rowsC 6 m (dropJ before l (k + 1)) = rowsC 6 m (dropJ before l k) from
          rowsC_congr fun a ha b hb => dropJ_skip hltj (by rw [HT.out]; exact hold) a b)
        clear hltj
        go_wp2
        go_roundw
        case rel => exact ⟨k + 1, by omega, by go_num, Lib.hid hB3.out, Lib.hid (by unfold DpO; rw [HM.out, HD6.out]; exact hD3.out)⟩
        case measure => simp [intOf]; omega
    · obtain rfl : k = m := by omega
      have HE := Lib.hid (show RecsZ wr X (dropL before l) from ⟨drop_recZ HL.out.1, DpO.done (d := d) (B := w1.heap.size) (by rw [HM.out]; exact HD.out)⟩)
      go_wp2
      go_ret2
      exact .inr ⟨HN.out, X, d, by rw [HM.out]; rfl, by rw [HM.out]; exact HMD.out, HE.out, HB.out⟩
end Go.Proofs.YtcfhaljkemaefaaGreatDoor

namespace Go.Proofs.YtcfhaljkemaefaaGreatDoor
open Nmb Work
set_option linter.unusedVariables false
set_option linter.unusedSimpArgs false

theorem inL_every {l : List UInt8} {a b : Int} (h : ∀ c ∈ l, a ≤ (c.toNat : Int) ∧ (c.toNat : Int) ≤ b) : inL l a b = true :=
  inL_mk fun i hi => by rw [byA_get hi]; exact h _ (List.getElem_mem hi)
theorem itoa_num {t : Int} (h : 0 ≤ t ∧ t ≤ 1000000000000000) : digs (Lib.itoa t) = true ∧ 1 ≤ (Lib.itoa t).length ∧ (Lib.itoa t).length ≤ 16 ∧ ((dv (Lib.itoa t) : Nat) : Int) = t ∧ ¬ (1 < (Lib.itoa t).length ∧ (Lib.itoa t).headD 48 = 48) := by
  rw [itoa_dec h.1]
  have h1 : 1 ≤ (Lib.decDigits t.toNat).length := List.length_pos_iff.2 (adec_ne _)
  refine ⟨?_, h1, adec_len (k := 15) (by omega), by rw [adec_val]; omega, ?_⟩
  · unfold digs
    rw [inL_every fun c hc => by have := adec_all _ c hc; omega]
    rcases hd : Lib.decDigits t.toNat with _ | ⟨a, l⟩
    · exact absurd hd (adec_ne _)
    · rfl
  · rintro ⟨h2, h3⟩
    refine adec_head t.toNat ?_ h3
    refine Nat.not_lt.1 fun h4 => ?_
    rw [Lib.decDigits, dif_pos (by omega)] at h2
    simp at h2
/-- The words of a right record's line are of bytes that can be seen. -/
theorem word_seen {r : Rec} (h : RecK r) : ∀ x ∈ [Lib.itoa r.time, r.kind.data.toList, r.key.data.toList, r.dig.data.toList], x ≠ [] ∧ inL x 33 126 = true ∧ x.length ≤ 40 := by
  have hn := itoa_num h.time
  have hk : 1 ≤ r.kind.data.toList.length ∧ r.kind.data.toList.length ≤ 40 := by
    have := h.kind
    unfold nameB at this
    simp only [Bool.and_eq_true, decide_eq_true_eq] at this
    exact this.1.1
  have hd : r.dig.data.toList.length = 16 := by
    have := h.dig
    unfold isDigB at this
    simp only [Bool.and_eq_true, decide_eq_true_eq] at this
    exact this.1
  have ne : ∀ {l : List UInt8}, 1 ≤ l.length → l ≠ [] := fun h1 e => by rw [e] at h1; simp at h1
  intro x hx
  simp only [List.mem_cons, List.not_mem_nil, or_false] at hx
  rcases hx with rfl | rfl | rfl | rfl
  · exact ⟨ne hn.2.1, inL_every fun c hc => by have := itoa_mem h.time.1 hc; omega, by have := hn.2.2.1; omega⟩
  · exact ⟨ne hk.1, inL_every fun c hc => by have := name_mem h.kind hc; omega, hk.2⟩
  · exact ⟨ne h.key.1, h.key.2.2, h.key.2.1⟩
  · exact ⟨ne (by omega), inL_every fun c hc => by have := dig_mem h.dig hc; omega, by omega⟩
theorem rest_ne (r : Rec) : restA r ≠ [] := by
  unfold restA
  split
  · decide
  · simp
theorem line_len {r : Rec} (h : RecK r) : 1 ≤ (lineA r).length ∧ (lineA r).length ≤ 4000 := by
  have h1 := (itoa_num h.time).2
  have h2 := (word_seen h r.kind.data.toList (by simp)).2.2
  have h3 := h.key
  have h4 := (word_seen h r.dig.data.toList (by simp)).2.2
  have h5 : (restA r).length ≤ 2001 := by
    unfold restA
    split
    · decide
    · have := h.text.1
      simp only [List.length_cons]
      omega
  rw [line_eq]
  simp only [List.length_append, List.length_cons]
  omega
theorem text_take {l : List Rec} {j : Nat} (h : j < l.length) : textA (l.take (j + 1)) = textA (l.take j) ++ (lineA (arA l j) ++ [10]) := by
  unfold textA
  rw [List.take_add_one, List.flatMap_append, List.getElem?_eq_getElem h, arA_get h]
  simp
theorem text_le {l : List Rec} (j : Nat) : (textA (l.take j)).length ≤ (textA l).length := by
  have : textA l = textA (l.take j) ++ textA (l.drop j) := by
    unfold textA
    rw [← List.flatMap_append, List.take_append_drop]
  rw [this, List.length_append]
  omega
/-- The text's lines are the records' lines. -/
theorem text_lns {l : List Rec} (h : ∀ r ∈ l, RecK r) : lnsL (textA l) = l.map lineA ∧ lnsE (textA l) = true := by
  by_cases hl : l = []
  · subst hl
    exact ⟨rfl, rfl⟩
  have e := text_jn hl
  have h1 : textA l ≠ [] := by rw [e]; simp
  have h2 : (textA l).getLast? = some 10 := by rw [e]; simp
  constructor
  · unfold lnsL
    rw [if_neg h1, if_pos h2, e, List.dropLast_concat, text_lines h hl]
  · unfold lnsE
    rw [h2]
    simp
theorem arc_rec {dg : List UInt8 → List UInt8} {l : List Rec} (h : arcF dg l = 0) : l.length ≤ 2000 ∧ ∀ j, j < l.length → RecK (arA l j) := by
  unfold arcF at h
  split at h; · cases h
  exact ⟨by omega, fun j hj => recF_ok (arcG_ok h j hj).1⟩
theorem arc_mem {dg : List UInt8 → List UInt8} {l : List Rec} (h : arcF dg l = 0) : ∀ r ∈ l, RecK r := by
  intro r hr
  obtain ⟨j, hj, rfl⟩ := List.getElem_of_mem hr
  rw [arA_get hj]
  exact (arc_rec h).2 j hj
/-- A record is told by its parts. -/
theorem rest_rec {r : Rec} (h : RecK r) : (r.drop = true → r = ⟨r.time, r.kind, r.key, r.dig, true, ⟨#[]⟩⟩) ∧ (r.drop = false → r = ⟨r.time, r.kind, r.key, r.dig, false, r.text⟩) := by
  obtain ⟨t, k, y, d, p, x⟩ := r
  constructor
  · intro hp
    have hx : x = ⟨#[]⟩ := h.drop hp
    have hp' : p = true := hp
    subst hx hp'
    rfl
  · intro hp
    have hp' : p = false := hp
    subst hp'
    rfl
end Go.Proofs.YtcfhaljkemaefaaGreatDoor
