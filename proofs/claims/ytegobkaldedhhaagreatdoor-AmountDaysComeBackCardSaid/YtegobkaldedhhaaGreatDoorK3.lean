
/- The walks of package amount's numbers: bankRestOf, isBank, isTax, isNumber, IsNumber, Widened. -/
import Derived.Test.YtegobkaldedhhaaGreatDoorK2
import Derived.Laws.IdiomStrings
namespace Go.Proofs.YtegobkaldedhhaaGreatDoor
open Go.RowKit Limb Nmb
set_option linter.unusedVariables false
set_option linter.unusedSimpArgs false

/-! ### Letters and digits -/
def tagSet : ByteArray := ⟨#[65, 66, 67, 68, 69, 70, 71, 72, 73, 74, 75, 76, 77, 78, 79, 80, 81, 82, 83, 84, 85, 86, 87, 88, 89, 90, 48, 49, 50, 51, 52, 53, 54, 55, 56, 57]⟩
theorem tagSet_fin : ∀ i : Fin 256, tagSet.data.toList.contains (UInt8.ofNat i.val) = tagC ((UInt8.ofNat i.val).toNat : Int) := by decide +kernel
theorem tagSet_c (c : UInt8) : tagSet.data.toList.contains c = tagC (c.toNat : Int) := by
  have := tagSet_fin ⟨c.toNat, c.toNat_lt⟩
  simp only [UInt8.ofNat_toNat] at this
  exact this
theorem trim_tag (l : List UInt8) : (Lib.trimS l tagSet.data.toList).isEmpty = tagL l := by
  rw [trimS_nil]
  unfold tagL
  congr 1
  funext c
  exact tagSet_c c
set_option maxHeartbeats 1000000 in
set_option maxRecDepth 100000 in
theorem istag_c (s : ByteArray) (w : World) (hs : s.size ≤ 9223372036854775807) :
    Calls Tryz.prog 116 #[.string s] w (RetB (tagL s.data.toList) w) := by
  have hcon := Tryz.strings_Trim_laid s tagSet w hs (by decide) (ascii_of_all (by decide))
  obtain ⟨r, hr⟩ : ∃ r : ByteArray, (⟨(Lib.trimS s.data.toList tagSet.data.toList).toArray⟩ : ByteArray) = r := ⟨_, rfl⟩
  have er : (Lib.trimS s.data.toList tagSet.data.toList).isEmpty = r.toList.isEmpty := by rw [← hr, Lib.toList_data]
  rw [hr] at hcon
  unfold tagSet at hcon
  rw [← trim_tag, er]
  clear hr er
  cases hb : r.toList.isEmpty with
  | true =>
    go_enter Tryz.func116, Tryz.ntmps116
    go_wp2_with (go_at_call 135; refine hcon.mono ?_; rintro e w1 ⟨rfl, hb1⟩)
    go_ret
    exact ⟨rfl, hb1⟩
  | false =>
    go_enter Tryz.func116, Tryz.ntmps116
    go_wp2_with (go_at_call 135; refine hcon.mono ?_; rintro e w1 ⟨rfl, hb1⟩)
    go_ret
    exact ⟨rfl, hb1⟩
theorem isbody_c (s : ByteArray) (w : World) (hs : s.size ≤ 9223372036854775807) :
    Calls Tryz.prog 60 #[.string s] w (RetB (tagL s.data.toList) w) := by
  have h := Lib.hid (istag_c s w hs)
  go_enter Tryz.func60, Tryz.ntmps60
  go_wp2_with fail
  refine h.out.mono ?_
  rintro e w1 ⟨rfl, hb1⟩
  go_wp2
  go_ret
  exact ⟨rfl, hb1⟩
theorem inb_c (s : ByteArray) (lo hi : Nat) (w : World) (hs : s.size ≤ 9223372036854775807) :
    Calls Tryz.prog 145 #[.string s, .int .u8 (lo : Int), .int .u8 (hi : Int)] w fun e w' => w = w' ∧ e = .returned (.bool (inL s.data.toList lo hi)) := by
  rw [← inB_inL]
  cases h : inB s.data.toList lo hi with
  | true => exact inb_yes s lo hi w h hs
  | false => exact inb_no s lo hi w h hs
theorem isletters_c (s : ByteArray) (w : World) (hs : s.size ≤ 9223372036854775807) :
    Calls Tryz.prog 117 #[.string s] w fun e w' => w = w' ∧ e = .returned (.bool (inL s.data.toList 65 90)) := by
  have h := Lib.hid (inb_c s 65 90 w hs)
  go_enter Tryz.func117, Tryz.ntmps117
  go_wp2_with fail
  refine h.out.mono ?_
  rintro e w1 ⟨rfl, rfl⟩
  go_wp2
  go_ret
  exact ⟨rfl, rfl⟩

/-! ### What a number of a bank leaves -/
theorem tag_app {a b : List UInt8} : tagL (a ++ b) = (tagL a && tagL b) := by unfold tagL; rw [List.all_append]
theorem tag_take_drop {l : List UInt8} (k : Nat) (h : tagL l = true) : tagL (l.drop k ++ l.take k) = true := by
  have : tagL (l.take k ++ l.drop k) = true := by rw [List.take_append_drop]; exact h
  rw [tag_app, Bool.and_eq_true] at this
  rw [tag_app, this.1, this.2]; rfl
theorem ext_drop (s : ByteArray) (k : Nat) : (s.extract k s.size).data.toList = s.data.toList.drop k := by rw [Lib.extract_to_end]
theorem ext_take (s : ByteArray) (k : Nat) : (s.extract 0 k).data.toList = s.data.toList.take k := by rw [Lib.extract_data]; simp
theorem row_facts (w : World) (t : ByteArray) (cap : Nat) (W : World) (h : (w.alloc (.cells (bytesRow t cap) 5 ((bytesRow t cap).size, (bytesRow t cap).size + 1))).drew.drew = W) :
    (∀ k, (hk : k < t.size) → W.cell? ⟨w.heap.size, k, none⟩ = some (.int .u8 (t[k].toNat : Int))) ∧ Below w.heap.size w W := by
  subst h
  refine ⟨fun k hk => ?_, by go_grown⟩
  have := World.cell?_alloc_mark w (bytesRow t cap) 5 ((bytesRow t cap).size, (bytesRow t cap).size + 1) k
  exact this.trans (bytesRow_at t cap k hk)
theorem rest_next {l : List UInt8} {k : Nat} (h : k < l.length) : restF (l.take (k + 1)) 0 = stBk (restF (l.take k) 0) (byA l k) := restF_take h 0
set_option maxHeartbeats 2000000 in
set_option maxRecDepth 100000 in
theorem bankrest_c (s : ByteArray) (w : World) (h4 : 4 ≤ s.size) (hs : s.size ≤ 9223372036854775807) (ht : tagL s.data.toList = true) :
    Calls Tryz.prog 61 #[.string s] w fun e w' => e = .returned (.int .i64 (bankR s.data.toList)) ∧ Below w.heap.size w w' := by
  obtain ⟨t, hte⟩ : ∃ t, s.extract 4 s.size ++ s.extract 0 4 = t := ⟨_, rfl⟩
  have htl : t.data.toList = s.data.toList.drop 4 ++ s.data.toList.take 4 := by
    rw [← hte, ByteArray.data_append, Array.toList_append, ext_drop, ext_take]
  have hts : t.size = s.size := by
    have := congrArg List.length htl
    simp at this
    have h1 : t.data.size = t.size := rfl
    have h2 : s.data.size = s.size := rfl
    omega
  have htt : tagL t.data.toList = true := by rw [htl]; exact tag_take_drop 4 ht
  have hR : bankR s.data.toList = restF t.data.toList 0 := by unfold bankR; rw [htl]
  rw [hR]
  have HE := Lib.hid hte
  have HT := Lib.hid (fun k (h : k < t.size) => tagL_at htt (i := k) (by rw [szL]; exact h))
  have HN := Lib.hid (fun k (h : k < t.size) => rest_next (l := t.data.toList) (k := k) (by rw [szL]; exact h))
  have HB := Lib.hid (fun k => restF_bd (l := t.data.toList.take k) (r := 0) ⟨by decide, by decide⟩)
  have HF := Lib.hid (show restF (t.data.toList.take s.size) 0 = restF t.data.toList 0 by rw [← hts, ← szL t, List.take_length])
  have HZ := Lib.hid hts
  have hcv := run_bytes_of_string (P := Tryz.prog) w.drew 9 133 5 (s.extract 4 s.size ++ s.extract 0 4) Tryz.underlying9 Tryz.underlying133 Tryz.underlying5
  have hcat : ¬ 9223372036854775807 < (s.extract 4 s.size).size + (s.extract 0 4).size := by rw [ByteArray.size_extract, ByteArray.size_extract]; omega
  clear hte htl htt hR ht hts
  go_enter Tryz.func61, Tryz.ntmps61
  go_wp2_with fail
  go_region
  clear hcv hcat
  generalize grownCap w.drew s.size 0 5 = cap
  rw [HE.out]
  generalize hW : (w.alloc (.cells (bytesRow t cap) 5 ((bytesRow t cap).size, (bytesRow t cap).size + 1))).drew.drew = W
  obtain ⟨hc, hb⟩ := row_facts w t cap W hW
  have HC := Lib.hid hc
  have HBL := Lib.hid hb
  clear hc hb hW
  go_wp2_with fail
  go_loop [3, 13] (fun x i => ∃ k : Nat, k ≤ s.size ∧ i = .int .i64 k ∧ x = .int .i64 (restF (t.data.toList.take k) 0)) (fun _ i => s.size - (intOf i).toNat)
  case atStart => exact ⟨0, Nat.zero_le _, rfl, rfl⟩
  case round =>
    obtain ⟨k, hk, rfl, rfl⟩ := hrel
    obtain ⟨b1, b2⟩ := HB.out k
    rcases Nat.lt_or_ge k s.size with hlt | hge
    · have hkt : k < t.size := by rw [HZ.out]; exact hlt
      have hcell := HC.out k hkt
      have hby := byS t k hkt
      have htg := HT.out k hkt
      rw [← hby] at htg
      have hS := Lib.hid (HN.out k hkt)
      rw [← hby] at hS
      generalize (t[k].toNat : Int) = c at *
      clear hby hkt
      rcases htg with ⟨t1, t2⟩ | ⟨t1, t2⟩
      · have hst := Lib.hid (show stBk (restF (t.data.toList.take k) 0) c = (restF (t.data.toList.take k) 0 * 100 + (c - 65) + 10) % 97 by unfold stBk; rw [if_pos t1])
        go_wp2
        go_round
        case rel => exact ⟨k + 1, by omega, by go_num, ivK (by rw [hS.out, hst.out]; omega)⟩
        case measure => simp [intOf]; omega
      · have hst := Lib.hid (show stBk (restF (t.data.toList.take k) 0) c = (restF (t.data.toList.take k) 0 * 10 + (c - 48)) % 97 by unfold stBk; rw [if_neg (by omega)])
        go_wp2
        go_round
        case rel => exact ⟨k + 1, by omega, by go_num, ivK (by rw [hS.out, hst.out])⟩
        case measure => simp [intOf]; omega
    · obtain rfl : k = s.size := by omega
      go_wp2
      go_ret
      exact ⟨retI HF.out, HBL.out⟩
end Go.Proofs.YtegobkaldedhhaaGreatDoor
