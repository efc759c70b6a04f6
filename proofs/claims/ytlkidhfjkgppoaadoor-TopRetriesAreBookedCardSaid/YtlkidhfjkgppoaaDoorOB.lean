
/- Plain: the book that the law writes. -/
import Derived.Test.YtlkidhfjkgppoaaDoorOA
import Derived.Test.YtlkidhfjkgppoaaDoorE4
namespace Go.Proofs.YtlkidhfjkgppoaaDoor
open Go.RowKit Limb Work Go.Maps
set_option linter.unusedVariables false
set_option linter.unusedSimpArgs false

def posE : List Ev → Int → Nat
  | [], _ => 0
  | e :: r, t => if e.time ≤ t then posE r t + 1 else 0
theorem posE_le : ∀ (es : List Ev) (t : Int), posE es t ≤ es.length
  | [], t => Nat.le_refl _
  | e :: r, t => by
    have := posE_le r t
    unfold posE
    split <;> simp <;> omega
theorem posE_in : ∀ (es : List Ev) (t : Int) (j : Nat), j < posE es t → (eA es j).time ≤ t
  | [], t, j, h => by simp [posE] at h
  | e :: r, t, j, h => by
    unfold posE at h
    split at h
    next he =>
      cases j with
      | zero => exact he
      | succ j => exact posE_in r t j (by omega)
    next => omega
theorem posE_out : ∀ (es : List Ev) (t : Int), posE es t < es.length → t < (eA es (posE es t)).time
  | [], t, h => by simp at h
  | e :: r, t, h => by
    unfold posE at h ⊢
    split
    next he =>
      rw [if_pos he] at h
      have := posE_out r t (by simpa using h)
      simpa [eA] using this
    next he => show t < e.time; omega
abbrev Srt (es : List Ev) : Prop := es.Pairwise fun a b => a.time ≤ b.time
theorem take_pos {es : List Ev} {t : Int} {y : Ev} (h : y ∈ es.take (posE es t)) : y.time ≤ t := by
  obtain ⟨j, hj, rfl⟩ := List.getElem_of_mem h
  rw [List.length_take] at hj
  have := posE_in es t j (by omega)
  rwa [← eA_get (by omega), ← List.getElem_take (h := by rw [List.length_take]; exact hj)] at this
theorem drop_pos {es : List Ev} {t : Int} (hs : Srt es) {y : Ev} (h : y ∈ es.drop (posE es t)) : t ≤ y.time := by
  obtain ⟨j, hj, rfl⟩ := List.getElem_of_mem h
  rw [List.length_drop] at hj
  have hlt : posE es t < es.length := by omega
  have h1 := posE_out es t hlt
  rw [List.getElem_drop]
  rw [← eA_get hlt] at h1
  rcases Nat.eq_zero_or_pos j with h0 | h0
  · subst h0; simp only [Nat.add_zero]; omega
  · have := (List.pairwise_iff_getElem.1 hs) (posE es t) (posE es t + j) hlt (by omega) (by omega)
    omega
theorem srt_ins {es : List Ev} {x : Ev} (hs : Srt es) : Srt (insE es (posE es x.time) x) := by
  unfold insE
  refine List.pairwise_append.2 ⟨hs.sublist (List.take_sublist _ _), List.pairwise_cons.2 ⟨fun y hy => drop_pos hs hy, hs.sublist (List.drop_sublist _ _)⟩, fun a ha b hb => ?_⟩
  have h1 := take_pos ha
  rcases List.mem_cons.1 hb with rfl | hb
  · exact h1
  · have := drop_pos hs hb; omega
theorem mem_ins {es : List Ev} {i : Nat} {x y : Ev} : y ∈ insE es i x ↔ y = x ∨ y ∈ es := by
  unfold insE
  rw [List.mem_append, List.mem_cons]
  constructor
  · rintro (h | h | h)
    · exact .inr (List.mem_of_mem_take h)
    · exact .inl h
    · exact .inr (List.mem_of_mem_drop h)
  · rintro (h | h)
    · exact .inr (.inl h)
    · rw [← List.take_append_drop i es] at h
      rcases List.mem_append.1 h with h | h
      · exact .inl h
      · exact .inr (.inr h)
theorem ins_len {es : List Ev} {i : Nat} {x : Ev} : (insE es i x).length = es.length + 1 := by
  unfold insE
  have := congrArg List.length (List.take_append_drop i es)
  rw [List.length_append] at this
  rw [List.length_append, List.length_cons]; omega
theorem nodup_ins {es : List Ev} {i : Nat} {x : Ev} (h : (es.map Ev.ref).Nodup) (hx : x.ref ∉ es.map Ev.ref) : ((insE es i x).map Ev.ref).Nodup := by
  have hp : (insE es i x).Perm (x :: es) := by
    unfold insE
    refine List.perm_middle.trans (List.Perm.cons _ ?_)
    rw [List.take_append_drop]
  exact (hp.map Ev.ref).nodup_iff.2 (List.nodup_cons.2 ⟨hx, h⟩)
theorem apart_of {es : List Ev} (h : (es.map Ev.ref).Nodup) : RefsApart es := fun i j hij hj e => by
  have h2 := (List.pairwise_iff_getElem.1 h) i j (by rw [List.length_map]; omega) (by rw [List.length_map]; omega) hij
  rw [List.getElem_map, List.getElem_map, eA_get (by omega), eA_get hj] at h2
  exact h2 e
theorem book_of {m : Int} {es : List Ev} (hl : es.length ≤ 1000) (hx : ∀ x ∈ es, EvOk m x) (hs : Srt es) : BookOk m es := ⟨hl, hx, fun i hi => by
  have := (List.pairwise_iff_getElem.1 hs) i (i + 1) (by omega) hi (by omega)
  rwa [eA_get (by omega), eA_get hi] at this⟩

/-! ### References J-0, J-1 .. -/
def refOf (i : Nat) : ByteArray := (⟨#[74, 45]⟩ : ByteArray) ++ ⟨(Lib.decDigits i).toArray⟩
def valD (l : List UInt8) : Nat := l.foldl (fun a c => a * 10 + (c.toNat - 48)) 0
theorem dec_fin : ∀ i : Fin 1000, valD (Lib.decDigits i.val) = i.val ∧ (Lib.decDigits i.val).length ≤ 3 ∧ (Lib.decDigits i.val).all (fun c => refSet.data.toList.contains c) = true := by decide +kernel
theorem ref_ok {i : Nat} (h : i < 1000) : RefOk (refOf i) := by
  obtain ⟨h1, h2, h3⟩ := dec_fin ⟨i, h⟩
  have hs : (refOf i).size = 2 + (Lib.decDigits i).length := by unfold refOf; rw [ByteArray.size_append]; rfl
  refine ⟨by omega, by simp only at h2; omega, fun c hc => ?_⟩
  unfold refOf at hc
  simp at hc
  rcases hc with rfl | rfl | hc
  · decide
  · decide
  · exact List.all_eq_true.1 h3 c hc
theorem ref_inj {i j : Nat} (hi : i < 1000) (hj : j < 1000) (h : refOf i = refOf j) : i = j := by
  have h1 := (dec_fin ⟨i, hi⟩).1
  have h2 := (dec_fin ⟨j, hj⟩).1
  simp only at h1 h2
  have h3 : Lib.decDigits i = Lib.decDigits j := by
    have := congrArg (fun s : ByteArray => s.data.toList) h
    unfold refOf at this
    simpa using this
  rw [← h1, ← h2, h3]

/-! ### The book -/
def inB2 (m : Int) (s : Snt) : Bool := decide (0 ≤ s.done) && decide (s.done ≤ m)
def evOf (wait : Int) (r : List Snt) (i : Nat) : Ev := ⟨(sA r i).done, (sA r i).done + wait, refOf i⟩
def bookF (m wait : Int) (r : List Snt) : Nat → List Ev
  | 0 => []
  | k + 1 => if inB2 m (sA r k) then insE (bookF m wait r k) (posE (bookF m wait r k) (sA r k).done) (evOf wait r k) else bookF m wait r k
theorem bookF_props {m wait : Int} {r : List Snt} (hw : 0 ≤ wait ∧ wait ≤ 10000000) : ∀ k, k ≤ 1000 → (bookF m wait r k).length ≤ k ∧ (∀ x ∈ bookF m wait r k, EvOk m x ∧ ∃ j, j < k ∧ x.ref = refOf j) ∧ Srt (bookF m wait r k) ∧ ((bookF m wait r k).map Ev.ref).Nodup
  | 0, _ => by simp [bookF, Srt]
  | k + 1, hk => by
    obtain ⟨h1, h2, h3, h4⟩ := bookF_props hw k (by omega)
    unfold bookF
    by_cases hin : inB2 m (sA r k) = true
    · rw [if_pos hin]
      unfold inB2 at hin
      rw [Bool.and_eq_true] at hin
      have ha := of_decide_eq_true hin.1
      have hb := of_decide_eq_true hin.2
      refine ⟨by rw [ins_len]; omega, fun x hx => ?_, srt_ins (x := evOf wait r k) h3, nodup_ins h4 (fun hm => ?_)⟩
      · rcases mem_ins.1 hx with rfl | hx
        · exact ⟨⟨⟨ha, hb⟩, ⟨by show (sA r k).done ≤ (sA r k).done + wait; omega, by show (sA r k).done + wait ≤ (sA r k).done + 10000000; omega⟩, ref_ok (by omega)⟩, k, by omega, rfl⟩
        · obtain ⟨e, j, hj, hr⟩ := h2 x hx
          exact ⟨e, j, by omega, hr⟩
      · obtain ⟨y, hy, he⟩ := List.mem_map.1 hm
        obtain ⟨-, j, hj, hr⟩ := h2 y hy
        have : j = k := ref_inj (by omega) (by omega) (hr.symm.trans he)
        omega
    · rw [if_neg hin]
      exact ⟨by omega, fun x hx => by obtain ⟨e, j, hj, hr⟩ := h2 x hx; exact ⟨e, j, by omega, hr⟩, h3, h4⟩
end Go.Proofs.YtlkidhfjkgppoaaDoor
