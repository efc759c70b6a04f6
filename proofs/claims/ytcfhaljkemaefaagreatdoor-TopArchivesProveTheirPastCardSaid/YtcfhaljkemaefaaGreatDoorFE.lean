
/- The walks of kit's Words and Lines. -/
import Derived.Test.YtcfhaljkemaefaaGreatDoorZP
import Derived.Test.YtcfhaljkemaefaaGreatDoorShelf4
namespace Go.Proofs.YtcfhaljkemaefaaGreatDoor
open Go.RowKit Limb Nmb Work
set_option linter.unusedVariables false
set_option linter.unusedSimpArgs false

theorem split_bs (s sep : ByteArray) (g : UInt8) (h : sep.data.toList = [g]) : Lib.splitB sep 0 (Lib.countB s sep) s = (pcs g s.data.toList).map bs := by
  rw [← split_pcs s sep g h, List.map_map]
  conv => lhs; rw [← List.map_id (Lib.splitB sep 0 (Lib.countB s sep) s)]
  refine List.map_congr_left fun x _ => ?_
  exact (bs_self x).symm
/-- What a cut at one byte leaves: the pieces in a new block. -/
theorem split_c (s : ByteArray) (g : UInt8) (m : Int) (w : World) (hs : s.size < 4294967281) (hm : w.cell? ⟨0, 0, none⟩ = some (.int .i64 m)) :
    Calls Tryz.prog 35 #[.string s, .string ⟨#[g]⟩] w fun e w' => e = .returned (.slice (some ⟨w.heap.size, 0, none⟩) (pcs g s.data.toList).length (pcs g s.data.toList).length) ∧ w' = w.alloc (.cells (((pcs g s.data.toList).map bs).map Value.string).toArray 9) := by
  refine (Tryz.strings_Split s ⟨#[g]⟩ m w hs hm (Nat.le_refl 1)).mono ?_
  rintro e w' ⟨rfl, rfl⟩
  have e1 := split_bs s ⟨#[g]⟩ g rfl
  have e2 : Lib.countB s ⟨#[g]⟩ + 1 = (pcs g s.data.toList).length := by
    rw [← Lib.splitB_all ⟨#[g]⟩ (Nat.le_refl 1) 0 _ _ rfl, e1, List.length_map]
  rw [e1, e2]
  exact ⟨rfl, rfl⟩
theorem sts_new {w : World} {g : Nat} {L : List ByteArray} (h : w.heap[g]? = some (.cells (L.map Value.string).toArray 9 (0, 0))) : Sts w (some ⟨g, 0, none⟩) L := fun hn =>
  ⟨g, 0, _, _, rfl, h, fun j hj => by
    have : L[j]? = some (wd L j) := by unfold wd; rw [List.getD_eq_getElem?_getD, List.getElem?_eq_getElem hj]; rfl
    simp [this]⟩
def RetWd (s : ByteArray) (w : World) (e : Ending) (w' : World) : Prop :=
  (if (wrdS s).any (fun x => decide (x = eS)) = true then e = .returned (.tuple #[.slice none 0 0, .bool false])
    else e = .returned (.tuple #[.slice (some ⟨w.heap.size, 0, none⟩) (wrdS s).length (wrdS s).length, .bool true]) ∧ w'.heap[w.heap.size]? = some (.cells ((wrdS s).map Value.string).toArray 9 (0, 0))) ∧ Below w.heap.size w w'
theorem RetWd.no {s : ByteArray} {w w' : World} (h : (wrdS s).any (fun x => decide (x = eS)) = true) (hb : Below w.heap.size w w') : RetWd s w (.returned (.tuple #[.slice none 0 0, .bool false])) w' := ⟨by rw [if_pos h], hb⟩
theorem RetWd.yes {s : ByteArray} {w w' : World} {n : Nat} (h : (wrdS s).any (fun x => decide (x = eS)) = false) (hn : (wrdS s).length = n) (hh : w'.heap[w.heap.size]? = some (.cells ((wrdS s).map Value.string).toArray 9 (0, 0))) (hb : Below w.heap.size w w') : RetWd s w (.returned (.tuple #[.slice (some ⟨w.heap.size, 0, none⟩) n n, .bool true])) w' := by
  subst hn
  exact ⟨by rw [if_neg (by rw [h]; decide)]; exact ⟨rfl, hh⟩, hb⟩
theorem suf_one (l : List UInt8) (g : UInt8) : Lib.hasSuffix l [g] = decide (l.getLast? = some g) := by
  unfold Lib.hasSuffix
  rw [Bool.eq_iff_iff, decide_eq_true_iff, List.isSuffixOf_iff_suffix]
  constructor
  · rintro ⟨a, rfl⟩
    simp
  · intro h
    obtain ⟨a, rfl⟩ := List.getLast?_eq_some_iff.1 h
    exact ⟨a, rfl⟩
def RetLs (s : ByteArray) (w : World) (e : Ending) (w' : World) : Prop :=
  ∃ A, e = .returned (.tuple #[.slice A (lnsL s.data.toList).length (lnsL s.data.toList).length, .bool (lnsE s.data.toList)]) ∧ Sts w' A ((lnsL s.data.toList).map bs) ∧ Below w.heap.size w w'
set_option maxHeartbeats 1000000 in
set_option maxRecDepth 100000 in
theorem lines_c (s : ByteArray) (m : Int) (w : World) (hs : s.size ≤ 500000) (hm : w.cell? ⟨0, 0, none⟩ = some (.int .i64 m)) :
    Calls Tryz.prog 21 #[.string s] w (RetLs s w) := by
  by_cases h : s = ⟨#[]⟩
  · subst h
    have e1 : ((⟨#[]⟩ : ByteArray).toList.isEmpty) = true := by rw [emp_dec]; exact decide_eq_true rfl
    go_enter Tryz.func21, Tryz.ntmps21
    go_wp2
    go_ret2
    exact ⟨none, rfl, (fun hn => absurd hn (by show ¬ 0 < 0; omega)), Below.refl _ _⟩
  have e1 : s.toList.isEmpty = false := by rw [emp_dec]; exact decide_eq_false h
  have h0 : s.data.toList ≠ [] := fun e => h (ByteArray.ext (Array.toList_eq_nil_iff.1 e))
  obtain ⟨t, ht⟩ : ∃ t : ByteArray, (⟨(Lib.trimSuffix s.data.toList (⟨#[10]⟩ : ByteArray).data.toList).toArray⟩ : ByteArray) = t := ⟨_, rfl⟩
  obtain ⟨E, hE⟩ : ∃ x, Lib.hasSuffix s.data.toList (⟨#[10]⟩ : ByteArray).data.toList = x := ⟨_, rfl⟩
  have hEE : lnsE s.data.toList = E := by
    rw [← hE]
    unfold lnsE
    rw [decide_eq_false h0, Bool.false_or]
    exact (suf_one _ _).symm
  have htl : t.data.toList = if s.data.toList.getLast? = some 10 then s.data.toList.dropLast else s.data.toList := by
    rw [← ht]
    show Lib.trimSuffix s.data.toList [10] = _
    unfold Lib.trimSuffix
    rw [suf_one]
    by_cases hl : s.data.toList.getLast? = some 10
    · rw [if_pos (decide_eq_true hl), if_pos hl, List.dropLast_eq_take]; rfl
    · rw [if_neg (by rw [decide_eq_false hl]; decide), if_neg hl]
  have hln : lnsL s.data.toList = pcs 10 t.data.toList := by
    unfold lnsL
    rw [if_neg h0, htl]
    split <;> rfl
  have hts : t.size ≤ 500000 := by
    have h1 : t.data.toList.length = t.size := by simp
    have h2 : s.data.toList.length = s.size := by simp
    rw [← h1, htl]
    split
    · rw [List.length_dropLast]; omega
    · omega
  have HC := Lib.hid (Tryz.strings_CutSuffix s ⟨#[10]⟩ w (by omega))
  rw [ht, hE] at HC
  have HS := Lib.hid (fun w hm => split_c t 10 m w (by omega) hm)
  have hwd : ∀ x, (pcs 10 t.data.toList).length = x → ∀ e w', RetLs s w e w' ↔ ∃ A, e = .returned (.tuple #[.slice A x x, .bool E]) ∧ Sts w' A ((pcs 10 t.data.toList).map bs) ∧ Below w.heap.size w w' := fun x hx e w' => by
    unfold RetLs
    rw [hln, hEE, hx]
  obtain ⟨n, hn⟩ : ∃ x, (pcs 10 t.data.toList).length = x := ⟨_, rfl⟩
  have HW := Lib.hid (hwd n hn)
  rw [hn] at HS
  have HM := Lib.hid hm
  clear hwd hn hln htl hEE h0 h hm ht hE
  go_enter Tryz.func21, Tryz.ntmps21
  go_wp2_with fail
  refine HC.out.mono ?_
  rintro e w1 ⟨rfl, rfl⟩
  go_wp2_with fail
  refine (HS.out _ HM.out).mono ?_
  rintro e w2 ⟨rfl, rfl⟩
  go_wp2
  go_ret2
  exact (HW.out _ _).2 ⟨_, rfl, sts_new (by rw [List.map_map]; exact heap_new _ _ rfl), by go_grown⟩
end Go.Proofs.YtcfhaljkemaefaaGreatDoor
