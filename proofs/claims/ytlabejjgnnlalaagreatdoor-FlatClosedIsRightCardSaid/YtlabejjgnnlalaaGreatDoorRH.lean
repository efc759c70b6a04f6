/- The walk of the reference's ReadText. A region that draws its order: its loads may be taken first as long as its first store has not come up. -/
import Derived.Test.YtlabejjgnnlalaaGreatDoorT16
import Derived.Test.YtlabejjgnnlalaaGreatDoorShelf
import Derived.Deep.RegionHeld3
import Derived.StillTail
import Derived.WalkKit
import Derived.Lib.Hide
-- merged: T17 RH
namespace Go.Proofs.YtlabejjgnnlalaaGreatDoor
open Go.RowKit Limb Work Nmb
set_option linter.unusedVariables false
set_option linter.unusedSimpArgs false
set_option linter.unnecessarySimpa false
end Go.Proofs.YtlabejjgnnlalaaGreatDoor
namespace Go.Proofs.YtlabejjgnnlalaaGreatDoor
open Go.RowKit
section
variable {P : Program} {ops : Array Oper} {Q : Exit → Act → World → Prop} {md : Region.Mode} {T : World → Prop} {k : Nat}
def Till (P : Program) (md : Region.Mode) (ops : Array Oper) (Q : Exit → Act → World → Prop) (T : World → Prop) (k : Nat) : Nat → Array Bool → Act → World → Prop
  | 0, ls, a, w => Region.ready md ops ls = [] ∧ Q .normal a w
  | n + 1, ls, a, w => (Region.ready md ops ls = [] → Q .normal a w) ∧
      ∀ i ∈ Region.ready md ops ls, wpOp P ops Q i (fun a' w' => ((ls.setIfInBounds i true).getD k true = false → T w') ∧ Till P md ops Q T k n (ls.setIfInBounds i true) a' w') a w
theorem Till.any : ∀ (n : Nat) (ls : Array Bool) (a : Act) (w : World), Till P md ops Q T k n ls a w → wpAny P md ops Q n ls a w
  | 0, _, _, _, h => h
  | n + 1, _, _, _, h => ⟨h.1, fun i hi => wpOp_mono (fun a' w' h' => Till.any n _ a' w' h'.2) (h.2 i hi)⟩
def Closed (md : Region.Mode) (ops : Array Oper) (ls : Array Bool) : Prop :=
  ∀ (j : Nat) (oj : Oper), ops[j]? = some oj → ls.getD j false = true → ∀ e ∈ oj.after, Region.binds md e = true → ls.getD e.on false = true
def closedB (md : Region.Mode) (ops : Array Oper) (ls : Array Bool) : Bool :=
  (List.range ops.size).all fun j => !(ls.getD j false) || match ops[j]? with
    | some oj => oj.after.all fun e => !(Region.binds md e) || ls.getD e.on false
    | none => true
theorem closed_of {ls : Array Bool} (h : closedB md ops ls = true) : Closed md ops ls := by
  intro j oj ho hl e he hb
  unfold closedB at h
  rw [List.all_eq_true] at h
  have hj : j < ops.size := by
    rcases Nat.lt_or_ge j ops.size with h | h
    · exact h
    · rw [Array.getElem?_eq_none h] at ho; cases ho
  have h1 := h j (List.mem_range.2 hj)
  rw [hl, ho] at h1
  simp only [Bool.not_true, Bool.false_or] at h1
  have h2 := Array.all_eq_true_iff_forall_mem.1 h1 e he
  rw [hb] at h2
  simpa using h2
theorem Closed.set {ls : Array Bool} (h : Closed md ops ls) {j : Nat} (hj : j ∈ Region.ready md ops ls) : Closed md ops (ls.setIfInBounds j true) := by
  intro m om ho hl e he hb
  by_cases hm : j = m
  · subst hm
    obtain ⟨_, o', ho', hall⟩ := mem_ready.1 hj
    rw [ho] at ho'
    injection ho' with ho'
    subst ho'
    exact getD_set_true (hall e he hb)
  · rw [getD_set_ne false hm] at hl
    exact getD_set_true (h m om ho hl e he hb)
def waitsBy (md : Region.Mode) (ops : Array Oper) : Nat → List Nat → Nat → Bool
  | i, [], k => Region.waitsFor md ops k i
  | i, j :: l, k => Region.waitsFor md ops j i && waitsBy md ops j l k
theorem Closed.back {ls : Array Bool} (h : Closed md ops ls) : ∀ (l : List Nat) (i : Nat), waitsBy md ops i l k = true → k ∈ Region.ready md ops ls → ls.getD i false = true
  | [], i, hw, hk => by
    obtain ⟨oj, ho, e, he, hb, hon⟩ := Region.waitsFor_spec hw
    obtain ⟨_, o', ho', hall⟩ := mem_ready.1 hk
    rw [ho] at ho'
    injection ho' with ho'
    subst ho'
    exact hon ▸ hall e he hb
  | j :: l, i, hw, hk => by
    unfold waitsBy at hw
    rw [Bool.and_eq_true] at hw
    obtain ⟨oj, ho, e, he, hb, hon⟩ := Region.waitsFor_spec hw.1
    exact hon ▸ h j oj ho (h.back l j hw.2 hk) e he hb
theorem not_listed {i : Nat} {ls : Array Bool} (hi : i ∈ Region.ready md ops ls) (h1 : ls.getD i false = true) : False := by
  have h0 := (mem_ready.1 hi).1
  rcases Nat.lt_or_ge i ls.size with h | h
  · simp [h] at h0 h1
    rw [h0] at h1
    cases h1
  · simp [Array.getElem?_eq_none h] at h1
theorem Till.first {i : Nat} {oi : Oper} {v : Value} (hi : ops[i]? = some oi) (hsel : ∀ (j : Nat) (o : Oper) cs b, ops[j]? = some o → o.op ≠ .select cs b)
    (hQ : ∀ c a w, Q (.panic c) (a.put oi.dst v) w → Q (.panic c) a w) {l : List Nat} (hk : waitsBy md ops i l k = true) (hki : k ≠ i) :
    ∀ (n : Nat) (ls : Array Bool) (a : Act) (w : World),
      (∀ j oj, ops[j]? = some oj → j ≠ i → ls.getD j true = false → (∀ e ∈ oj.after, Region.binds md e = true → e.on ≠ i) → oi.apart ops oj = true) →
      i ∈ Region.ready md ops ls → Closed md ops ls → ls.getD k true = false → YieldsIf P ops T oi v a → T w →
      Till P md ops Q T k n (ls.setIfInBounds i true) (a.put oi.dst v) w → Till P md ops Q T k (n + 1) ls a w := by
  intro n
  induction n with
  | zero =>
    intro ls a w _ hr _ _ hy hT H
    refine ⟨fun h => (by rw [h] at hr; cases hr), fun j hj => ?_⟩
    by_cases hji : j = i
    · subst hji
      exact hy.wpOp hi hT ⟨fun _ => hT, H⟩
    · have h := ready_mono hj hji
      rw [H.1] at h
      cases h
  | succ n ih =>
    intro ls a w hfree hr hcl hkl hy hT H
    refine ⟨fun h => (by rw [h] at hr; cases hr), fun j hj => ?_⟩
    by_cases hji : j = i
    · subst hji
      exact hy.wpOp hi hT ⟨fun _ => hT, H⟩
    · have hjk : j ≠ k := fun e => not_listed hr (hcl.back l i hk (e ▸ hj))
      obtain ⟨hun, oj, ho, hall⟩ := mem_ready.1 hj
      have hno : ∀ e ∈ oj.after, Region.binds md e = true → e.on ≠ i := fun e he hb hon =>
        not_listed hr (hon ▸ hall e he hb)
      have h2 := wpOp_putIf ho (hfree j oj ho hji hun hno) (fun cs b => hsel i oi cs b hi) (fun cs b => hsel j oj cs b ho) hQ hy (H.2 j (ready_mono hj hji))
      refine wpOp_mono (fun a' w' h3 => ?_) h2
      obtain ⟨hy', hT', hrest⟩ := h3
      have hTw : T w' := hT' (by rw [getD_set_ne true hjk, getD_set_ne true (Ne.symm hki)]; exact hkl)
      refine ⟨fun _ => hTw, ih _ a' w' ?_ (ready_mono hr (Ne.symm hji)) (hcl.set hj) (by rw [getD_set_ne true hjk]; exact hkl) hy' hTw ?_⟩
      · intro m om hm hmi hmu hmn
        refine hfree m om hm hmi ?_ hmn
        by_cases hjm : j = m
        · subst hjm; exact hun
        · rwa [getD_set_ne true hjm] at hmu
      · rw [Array.setIfInBounds_comm _ _ hji]
        exact hrest
theorem Till.take {i : Nat} {oi : Oper} {v : Value} {n : Nat} {ls : Array Bool} {a : Act} {w : World} (hi : ops[i]? = some oi)
    (hs : Region.noSelect ops = true) (hf : Region.free md ops ls i = true) (hr : (Region.ready md ops ls).contains i = true) (l : List Nat) (hk : waitsBy md ops i l k = true) (hki : k ≠ i) (hcl : closedB md ops ls = true) (hkl : ls.getD k true = false)
    (hQ : ∀ c a w, Q (.panic c) (a.put oi.dst v) w → Q (.panic c) a w) (hT : T w) (hy : YieldsIf P ops T oi v a)
    (h : Till P md ops Q T k n (ls.setIfInBounds i true) (a.put oi.dst v) w) : Till P md ops Q T k (n + 1) ls a w :=
  Till.first hi (Region.noSelect_spec hs) hQ hk hki n ls a w (Region.free_spec hi hf) (by simpa using hr) (closed_of hcl) hkl hy hT h
theorem Till.step {i : Nat} {o : Oper} {n : Nat} {ls : Array Bool} {a : Act} {w : World} (hr : Region.ready md ops ls = [i]) (ho : ops[i]? = some o)
    (h : ∀ K' : Act → World → Prop, Hid (∀ a w, ((ls.setIfInBounds i true).getD k true = false → T w) → Till P md ops Q T k n (ls.setIfInBounds i true) a w → K' a w) →
      if Region.wanted o (yielded ops a.tmps) = true then Oper.wp P o a w K' Q else K' (a.put o.dst undef) w) : Till P md ops Q T k (n + 1) ls a w :=
  ⟨fun h0 => (by rw [hr] at h0; cases h0), fun j hj => by
    rw [hr] at hj
    obtain rfl := List.mem_singleton.1 hj
    exact wpOp_step ho fun K' hK => h K' fun a w h1 h2 => hK a w ⟨h1, h2⟩⟩
theorem Till.done {ls : Array Bool} {a : Act} {w : World} (hr : Region.ready md ops ls = []) (h : Q .normal a w) : ∀ n, Till P md ops Q T k n ls a w
  | 0 => ⟨hr, h⟩
  | _ + 1 => ⟨fun _ => h, by rw [hr]; intro i hi; cases hi⟩
theorem region_till {id : Nat} {a : Act} {w : World} (k : Nat) (T : World → Prop) (hm : P.follows .mixedOrders = true)
    (h : Till P .any ops Q T k ops.size (Array.replicate ops.size false) a w.drew) : (Code.region id ops true).wp P Q a w :=
  wp_region_any hm (Till.any _ _ _ _ h)
end
end Go.Proofs.YtlabejjgnnlalaaGreatDoor
