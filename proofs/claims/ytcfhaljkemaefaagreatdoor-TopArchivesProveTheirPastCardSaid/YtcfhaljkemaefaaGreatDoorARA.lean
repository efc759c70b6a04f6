/- Archive's walks on one record: isDigest, fieldsFault. Builds in the seat of row 14. Archive's walks: the fields of a record. Builds in the seat of row 14. A region that draws its order: its loads may be taken first as long as its first store has not come up. Archive's walks: what is wrong with a record. -/
import Derived.Test.YtcfhaljkemaefaaGreatDoorAR8
import Derived.Test.YtcfhaljkemaefaaGreatDoorK3
import Derived.Test.YtcfhaljkemaefaaGreatDoorA5
import Derived.Deep.RegionHeld3
import Derived.StillTail
import Derived.WalkKit
import Derived.Lib.Hide
-- merged: AR4 AR9 RH ARA

namespace Go.Proofs.YtcfhaljkemaefaaGreatDoor
open Go.RowKit Limb Nmb Work
set_option linter.unusedVariables false
set_option linter.unusedSimpArgs false

def hexSet : ByteArray := ⟨#[48, 49, 50, 51, 52, 53, 54, 55, 56, 57, 97, 98, 99, 100, 101, 102]⟩
theorem hexSet_c (c : UInt8) : hexSet.data.toList.contains c = hexC c := by
  have : ∀ i : Fin 256, hexSet.data.toList.contains (UInt8.ofNat i.val) = hexC (UInt8.ofNat i.val) := by decide +kernel
  have h := this ⟨c.toNat, c.toNat_lt⟩
  simpa using h
theorem trim_hex (l : List UInt8) : (Lib.trimS l hexSet.data.toList).isEmpty = l.all hexC := by
  rw [trimS_nil]
  congr 1
  funext c
  exact hexSet_c c
set_option maxHeartbeats 1000000 in
set_option maxRecDepth 100000 in
theorem isdigest_c (s : ByteArray) (w : World) (hs : s.size ≤ 9223372036854775807) :
    Calls Tryz.prog 16 #[.string s] w (RetB (isDigB s.data.toList) w) := by
  have hlen : s.data.toList.length = s.size := by simp
  by_cases h1 : s.size = 16
  · have en : isDigB s.data.toList = (Lib.trimS s.data.toList hexSet.data.toList).isEmpty := by
      unfold isDigB; rw [hlen, decide_eq_true h1, Bool.true_and, trim_hex]
    rw [en]
    have hcon := Tryz.strings_Trim_laid s hexSet w hs (by decide) (ascii_of_all (by decide))
    obtain ⟨r, hr⟩ : ∃ r : ByteArray, (⟨(Lib.trimS s.data.toList hexSet.data.toList).toArray⟩ : ByteArray) = r := ⟨_, rfl⟩
    have er : (Lib.trimS s.data.toList hexSet.data.toList).isEmpty = r.toList.isEmpty := by rw [← hr, Lib.toList_data]
    rw [hr] at hcon
    unfold hexSet at hcon
    rw [er]
    have h2 : (s.size : Int) = 16 := by omega
    clear hr er en hlen h1
    cases hb : r.toList.isEmpty with
    | true =>
      go_enter Tryz.func16, Tryz.ntmps16
      go_wp2_with (go_at_call 31; refine hcon.mono ?_; rintro e w1 ⟨rfl, hb1⟩)
      go_ret
      exact ⟨rfl, hb1⟩
    | false =>
      go_enter Tryz.func16, Tryz.ntmps16
      go_wp2_with (go_at_call 31; refine hcon.mono ?_; rintro e w1 ⟨rfl, hb1⟩)
      go_ret
      exact ⟨rfl, hb1⟩
  · have en : isDigB s.data.toList = false := by unfold isDigB; rw [hlen, decide_eq_false h1]; rfl
    rw [en]
    have h2 : ¬ (s.size : Int) = 16 := by omega
    clear en hlen h1
    go_enter Tryz.func16, Tryz.ntmps16
    go_wp2
    go_ret
    exact ⟨rfl, Below.refl _ _⟩
end Go.Proofs.YtcfhaljkemaefaaGreatDoor

namespace Go.Proofs.YtcfhaljkemaefaaGreatDoor
open Go.RowKit Limb Nmb Work
set_option linter.unusedVariables false
set_option linter.unusedSimpArgs false

theorem momA_c (n : Int) (w : World) : Calls Tryz.prog 69 #[.int .i64 n] w fun e w' => w = w' ∧ e = .returned (.bool (decide (0 ≤ n ∧ n ≤ 1000000000000000))) := by
  by_cases h : 0 ≤ n ∧ n ≤ 1000000000000000
  · have HO := Lib.hid (fun w => out_no n 0 1000000000000000 w h)
    rw [decide_eq_true h]
    clear h
    go_enter Tryz.func69, Tryz.ntmps69
    go_wp2_with fail
    refine (HO.out _).mono ?_
    rintro e w1 ⟨rfl, rfl⟩
    go_wp2
    go_ret
    exact ⟨rfl, rfl⟩
  · have HO := Lib.hid (fun w => out_yes n 0 1000000000000000 w h)
    rw [decide_eq_false h]
    clear h
    go_enter Tryz.func69, Tryz.ntmps69
    go_wp2_with fail
    refine (HO.out _).mono ?_
    rintro e w1 ⟨rfl, rfl⟩
    go_wp2
    go_ret
    exact ⟨rfl, rfl⟩

def RetFt (x : Int) (w : World) (e : Ending) (w' : World) : Prop := e = .returned (.int .i64 x) ∧ Below w.heap.size w w'
set_option maxHeartbeats 2000000 in
set_option maxRecDepth 100000 in
theorem fields_c (t : Int) (kd ky tx : ByteArray) (w : World) (s1 : kd.size ≤ 9223372036854775807) (s2 : ky.size ≤ 9223372036854775807) (s3 : tx.size ≤ 9223372036854775807) :
    Calls Tryz.prog 41 #[.int .i64 t, .string kd, .string ky, .string tx] w (RetFt (fldF t kd.data.toList ky.data.toList tx.data.toList) w) := by
  have e : ∀ x : ByteArray, x.data.toList.length = x.size := fun x => by simp
  have HM := Lib.hid (momA_c t)
  have HN := Lib.hid (fun w => isname_c kd w s1)
  have HK := Lib.hid (fun w => inb_c ky 33 126 w s2)
  have HT := Lib.hid (fun w => inb_c tx 32 126 w s3)
  obtain ⟨F, hF⟩ : ∃ F, fldF t kd.data.toList ky.data.toList tx.data.toList = F := ⟨_, rfl⟩
  rw [hF]
  unfold fldF at hF
  rw [e, e] at hF
  have HFF := Lib.hid hF
  clear hF s1 s2 s3
  cases hm : decide (0 ≤ t ∧ t ≤ 1000000000000000)
  · rw [hm] at HM
    have hm' := of_decide_eq_false hm
    obtain rfl : F = 1 := by rw [← HFF.out, if_pos hm']
    clear hm hm' HFF
    go_enter Tryz.func41, Tryz.ntmps41
    go_wp2_with fail
    refine (HM.out _).mono ?_
    rintro e w1 ⟨rfl, rfl⟩
    go_wp2
    go_ret
    exact ⟨rfl, Below.refl _ _⟩
  rw [hm] at HM
  have hm' := of_decide_eq_true hm
  have HF1 := Lib.hid (HFF.out.symm.trans (if_neg (fun h => h hm')))
  clear hm hm' HFF
  cases hk : nameB kd.data.toList
  · rw [hk] at HN HF1
    obtain rfl : F = 5 := by rw [HF1.out, if_pos rfl]
    clear hk HF1
    go_enter Tryz.func41, Tryz.ntmps41
    go_wp2_with fail
    refine (HM.out _).mono ?_
    rintro e w1 ⟨rfl, rfl⟩
    go_wp2_with fail
    refine (HN.out _).mono ?_
    rintro e w2 ⟨rfl, hb2⟩
    go_wp2
    go_ret
    exact ⟨rfl, hb2⟩
  rw [hk] at HN HF1
  have HF2 := Lib.hid (HF1.out.trans (if_neg (by decide)))
  clear hk HF1
  by_cases h1 : ky.size < 1
  · obtain rfl : F = 3 := by rw [HF2.out, if_pos (.inl (by omega))]
    have h1' : (ky.size : Int) < 1 := by omega
    clear HF2 h1
    go_enter Tryz.func41, Tryz.ntmps41
    go_wp2_with fail
    refine (HM.out _).mono ?_
    rintro e w1 ⟨rfl, rfl⟩
    go_wp2_with fail
    refine (HN.out _).mono ?_
    rintro e w2 ⟨rfl, hb2⟩
    go_wp2
    go_ret
    exact ⟨rfl, hb2⟩
  have h1' : ¬ (ky.size : Int) < 1 := by omega
  by_cases h2 : 40 < ky.size
  · obtain rfl : F = 3 := by rw [HF2.out, if_pos (.inl (by omega))]
    have h2' : (40 : Int) < (ky.size : Int) := by omega
    clear HF2 h1 h2
    go_enter Tryz.func41, Tryz.ntmps41
    go_wp2_with fail
    refine (HM.out _).mono ?_
    rintro e w1 ⟨rfl, rfl⟩
    go_wp2_with fail
    refine (HN.out _).mono ?_
    rintro e w2 ⟨rfl, hb2⟩
    go_wp2
    go_ret
    exact ⟨rfl, hb2⟩
  have h2' : ¬ (40 : Int) < (ky.size : Int) := by omega
  cases h3 : inL ky.data.toList 33 126
  · obtain rfl : F = 3 := by rw [HF2.out, if_pos (.inr h3)]
    rw [show inL ky.data.toList ((33 : Nat) : Int) ((126 : Nat) : Int) = false from h3] at HK
    clear HF2 h1 h2 h3
    go_enter Tryz.func41, Tryz.ntmps41
    go_wp2_with fail
    refine (HM.out _).mono ?_
    rintro e w1 ⟨rfl, rfl⟩
    go_wp2_with fail
    refine (HN.out _).mono ?_
    rintro e w2 ⟨rfl, hb2⟩
    go_wp2_with fail
    refine (HK.out _).mono ?_
    rintro e w3 ⟨rfl, rfl⟩
    go_wp2
    go_ret
    exact ⟨rfl, hb2⟩
  have HF3 := Lib.hid (HF2.out.trans (if_neg (fun h => by rcases h with h | h; exact h (by omega); rw [h3] at h; cases h)))
  rw [show inL ky.data.toList ((33 : Nat) : Int) ((126 : Nat) : Int) = true from h3] at HK
  clear HF2 h1 h2 h3
  by_cases h4 : 2000 < tx.size
  · obtain rfl : F = 2 := by rw [HF3.out, if_pos h4]
    have h4' : (2000 : Int) < (tx.size : Int) := by omega
    clear HF3 h4
    go_enter Tryz.func41, Tryz.ntmps41
    go_wp2_with fail
    refine (HM.out _).mono ?_
    rintro e w1 ⟨rfl, rfl⟩
    go_wp2_with fail
    refine (HN.out _).mono ?_
    rintro e w2 ⟨rfl, hb2⟩
    go_wp2_with fail
    refine (HK.out _).mono ?_
    rintro e w3 ⟨rfl, rfl⟩
    go_wp2
    go_ret
    exact ⟨rfl, hb2⟩
  have h4' : ¬ (2000 : Int) < (tx.size : Int) := by omega
  have HF4 := Lib.hid (HF3.out.trans (if_neg h4))
  clear HF3 h4
  cases h5 : inL tx.data.toList 32 126
  · obtain rfl : F = 3 := by rw [HF4.out, if_pos h5]
    rw [show inL tx.data.toList ((32 : Nat) : Int) ((126 : Nat) : Int) = false from h5] at HT
    clear HF4 h5
    go_enter Tryz.func41, Tryz.ntmps41
    go_wp2_with fail
    refine (HM.out _).mono ?_
    rintro e w1 ⟨rfl, rfl⟩
    go_wp2_with fail
    refine (HN.out _).mono ?_
    rintro e w2 ⟨rfl, hb2⟩
    go_wp2_with fail
    refine (HK.out _).mono ?_
    rintro e w3 ⟨rfl, rfl⟩
    go_wp2_with fail
    refine (HT.out _).mono ?_
    rintro e w4 ⟨rfl, rfl⟩
    go_wp2
    go_ret
    exact ⟨rfl, hb2⟩
  · obtain rfl : F = 0 := by rw [HF4.out, if_neg (by rw [h5]; decide)]
    rw [show inL tx.data.toList ((32 : Nat) : Int) ((126 : Nat) : Int) = true from h5] at HT
    clear HF4 h5
    go_enter Tryz.func41, Tryz.ntmps41
    go_wp2_with fail
    refine (HM.out _).mono ?_
    rintro e w1 ⟨rfl, rfl⟩
    go_wp2_with fail
    refine (HN.out _).mono ?_
    rintro e w2 ⟨rfl, hb2⟩
    go_wp2_with fail
    refine (HK.out _).mono ?_
    rintro e w3 ⟨rfl, rfl⟩
    go_wp2_with fail
    refine (HT.out _).mono ?_
    rintro e w4 ⟨rfl, rfl⟩
    go_wp2
    go_ret
    exact ⟨rfl, hb2⟩
end Go.Proofs.YtcfhaljkemaefaaGreatDoor

namespace Go.Proofs.YtcfhaljkemaefaaGreatDoor
open Go.RowKit

section
variable {P : Program} {ops : Array Oper} {Q : Exit → Act → World → Prop} {md : Region.Mode} {T : World → Prop} {k : Nat}

/-- All orders from here on; T is known of every world that is met before operation k has come up. -/
def Till (P : Program) (md : Region.Mode) (ops : Array Oper) (Q : Exit → Act → World → Prop) (T : World → Prop) (k : Nat) : Nat → Array Bool → Act → World → Prop
  | 0, ls, a, w => Region.ready md ops ls = [] ∧ Q .normal a w
  | n + 1, ls, a, w => (Region.ready md ops ls = [] → Q .normal a w) ∧
      ∀ i ∈ Region.ready md ops ls, wpOp P ops Q i (fun a' w' => ((ls.setIfInBounds i true).getD k true = false → T w') ∧ Till P md ops Q T k n (ls.setIfInBounds i true) a' w') a w

theorem Till.any : ∀ (n : Nat) (ls : Array Bool) (a : Act) (w : World), Till P md ops Q T k n ls a w → wpAny P md ops Q n ls a w
  | 0, _, _, _, h => h
  | n + 1, _, _, _, h => ⟨h.1, fun i hi => wpOp_mono (fun a' w' h' => Till.any n _ a' w' h'.2) (h.2 i hi)⟩

/-- What has come up has come up behind what it waits for. -/
def Closed (md : Region.Mode) (ops : Array Oper) (ls : Array Bool) : Prop :=
  ∀ (j : Nat) (oj : Oper), ops[j]? = some oj → ls.getD j false = true → ∀ e ∈ oj.after, Region.binds md e = true → ls.getD e.on false = true
def closedB (md : Region.Mode) (ops : Array Oper) (ls : Array Bool) : Bool :=
  (List.range ops.size).all fun j => !(ls.getD j false) || match ops[j]? with
    | some oj => oj.after.all fun e => !(Region.binds md e) || ls.getD e.on false
    | none => true
theorem closed_of {ls : Array Bool} (h : closedB md ops ls = true) : Closed md ops ls := by
  intro j oj ho hl e he hb
  unfold closedB at h
  rw [List.all_eq_true] at h
  have hj : j < ops.size := by
    rcases Nat.lt_or_ge j ops.size with h | h
    · exact h
    · rw [Array.getElem?_eq_none h] at ho; cases ho
  have h1 := h j (List.mem_range.2 hj)
  rw [hl, ho] at h1
  simp only [Bool.not_true, Bool.false_or] at h1
  have h2 := Array.all_eq_true_iff_forall_mem.1 h1 e he
  rw [hb] at h2
  simpa using h2
theorem Closed.set {ls : Array Bool} (h : Closed md ops ls) {j : Nat} (hj : j ∈ Region.ready md ops ls) : Closed md ops (ls.setIfInBounds j true) := by
  intro m om ho hl e he hb
  by_cases hm : j = m
  · subst hm
    obtain ⟨_, o', ho', hall⟩ := mem_ready.1 hj
    rw [ho] at ho'
    injection ho' with ho'
    subst ho'
    exact getD_set_true (hall e he hb)
  · rw [getD_set_ne false hm] at hl
    exact getD_set_true (h m om ho hl e he hb)
/-- k waits for i, by way of those of the list. -/
def waitsBy (md : Region.Mode) (ops : Array Oper) : Nat → List Nat → Nat → Bool
  | i, [], k => Region.waitsFor md ops k i
  | i, j :: l, k => Region.waitsFor md ops j i && waitsBy md ops j l k
theorem Closed.back {ls : Array Bool} (h : Closed md ops ls) : ∀ (l : List Nat) (i : Nat), waitsBy md ops i l k = true → k ∈ Region.ready md ops ls → ls.getD i false = true
  | [], i, hw, hk => by
    obtain ⟨oj, ho, e, he, hb, hon⟩ := Region.waitsFor_spec hw
    obtain ⟨_, o', ho', hall⟩ := mem_ready.1 hk
    rw [ho] at ho'
    injection ho' with ho'
    subst ho'
    exact hon ▸ hall e he hb
  | j :: l, i, hw, hk => by
    unfold waitsBy at hw
    rw [Bool.and_eq_true] at hw
    obtain ⟨oj, ho, e, he, hb, hon⟩ := Region.waitsFor_spec hw.1
    exact hon ▸ h j oj ho (h.back l j hw.2 hk) e he hb
theorem not_listed {i : Nat} {ls : Array Bool} (hi : i ∈ Region.ready md ops ls) (h1 : ls.getD i false = true) : False := by
  have h0 := (mem_ready.1 hi).1
  rcases Nat.lt_or_ge i ls.size with h | h
  · simp [h] at h0 h1
    rw [h0] at h1
    cases h1
  · simp [Array.getElem?_eq_none h] at h1

theorem Till.first {i : Nat} {oi : Oper} {v : Value} (hi : ops[i]? = some oi) (hsel : ∀ (j : Nat) (o : Oper) cs b, ops[j]? = some o → o.op ≠ .select cs b)
    (hQ : ∀ c a w, Q (.panic c) (a.put oi.dst v) w → Q (.panic c) a w) {l : List Nat} (hk : waitsBy md ops i l k = true) (hki : k ≠ i) :
    ∀ (n : Nat) (ls : Array Bool) (a : Act) (w : World),
      (∀ j oj, ops[j]? = some oj → j ≠ i → ls.getD j true = false → (∀ e ∈ oj.after, Region.binds md e = true → e.on ≠ i) → oi.apart ops oj = true) →
      i ∈ Region.ready md ops ls → Closed md ops ls → ls.getD k true = false → YieldsIf P ops T oi v a → T w →
      Till P md ops Q T k n (ls.setIfInBounds i true) (a.put oi.dst v) w → Till P md ops Q T k (n + 1) ls a w := by
  intro n
  induction n with
  | zero =>
    intro ls a w _ hr _ _ hy hT H
    refine ⟨fun h => (by rw [h] at hr; cases hr), fun j hj => ?_⟩
    by_cases hji : j = i
    · subst hji
      exact hy.wpOp hi hT ⟨fun _ => hT, H⟩
    · have h := ready_mono hj hji
      rw [H.1] at h
      cases h
  | succ n ih =>
    intro ls a w hfree hr hcl hkl hy hT H
    refine ⟨fun h => (by rw [h] at hr; cases hr), fun j hj => ?_⟩
    by_cases hji : j = i
    · subst hji
      exact hy.wpOp hi hT ⟨fun _ => hT, H⟩
    · have hjk : j ≠ k := fun e => not_listed hr (hcl.back l i hk (e ▸ hj))
      obtain ⟨hun, oj, ho, hall⟩ := mem_ready.1 hj
      have hno : ∀ e ∈ oj.after, Region.binds md e = true → e.on ≠ i := fun e he hb hon =>
        not_listed hr (hon ▸ hall e he hb)
      have h2 := wpOp_putIf ho (hfree j oj ho hji hun hno) (fun cs b => hsel i oi cs b hi) (fun cs b => hsel j oj cs b ho) hQ hy (H.2 j (ready_mono hj hji))
      refine wpOp_mono (fun a' w' h3 => ?_) h2
      obtain ⟨hy', hT', hrest⟩ := h3
      have hTw : T w' := hT' (by rw [getD_set_ne true hjk, getD_set_ne true (Ne.symm hki)]; exact hkl)
      refine ⟨fun _ => hTw, ih _ a' w' ?_ (ready_mono hr (Ne.symm hji)) (hcl.set hj) (by rw [getD_set_ne true hjk]; exact hkl) hy' hTw ?_⟩
      · intro m om hm hmi hmu hmn
        refine hfree m om hm hmi ?_ hmn
        by_cases hjm : j = m
        · subst hjm; exact hun
        · rwa [getD_set_ne true hjm] at hmu
      · rw [Array.setIfInBounds_comm _ _ hji]
        exact hrest

theorem Till.take {i : Nat} {oi : Oper} {v : Value} {n : Nat} {ls : Array Bool} {a : Act} {w : World} (hi : ops[i]? = some oi)
    (hs : Region.noSelect ops = true) (hf : Region.free md ops ls i = true) (hr : (Region.ready md ops ls).contains i = true) (l : List Nat) (hk : waitsBy md ops i l k = true) (hki : k ≠ i) (hcl : closedB md ops ls = true) (hkl : ls.getD k true = false)
    (hQ : ∀ c a w, Q (.panic c) (a.put oi.dst v) w → Q (.panic c) a w) (hT : T w) (hy : YieldsIf P ops T oi v a)
    (h : Till P md ops Q T k n (ls.setIfInBounds i true) (a.put oi.dst v) w) : Till P md ops Q T k (n + 1) ls a w :=
  Till.first hi (Region.noSelect_spec hs) hQ hk hki n ls a w (Region.free_spec hi hf) (by simpa using hr) (closed_of hcl) hkl hy hT h

theorem Till.a : type_of% @List.setIfInBounds_toArray := @List.setIfInBounds_toArray
theorem Till.b : type_of% @List.set_cons_zero := @List.set_cons_zero
theorem Till.c : type_of% @List.set_cons_succ := @List.set_cons_succ
theorem Till.tk {i : Nat} {oi : Oper} {v : Value} {n : Nat} {ls : Array Bool} {a : Act} {w : World} (hi : ops[i]? = some oi) (l : List Nat) (hT : T w) (hy : YieldsIf P ops T oi v a)
    (h : Till P md ops Q T k n (ls.setIfInBounds i true) (a.put oi.dst v) w) (hs : Region.noSelect ops = true := by kernel_rfl) (hf : Region.free md ops ls i = true := by kernel_rfl) (hr : (Region.ready md ops ls).contains i = true := by kernel_rfl) (hk : waitsBy md ops i l k = true := by kernel_rfl) (hki : k ≠ i := by decide) (hcl : closedB md ops ls = true := by kernel_rfl) (hkl : ls.getD k true = false := by kernel_rfl)
    (hQ : ∀ c a w, Q (.panic c) (a.put oi.dst v) w → Q (.panic c) a w := by exact fun _ _ _ h => h) : Till P md ops Q T k (n + 1) ls a w :=
  Till.take hi hs hf hr l hk hki hcl hkl hQ hT hy h

theorem Till.step {i : Nat} {o : Oper} {n : Nat} {ls : Array Bool} {a : Act} {w : World} (hr : Region.ready md ops ls = [i]) (ho : ops[i]? = some o)
    (h : ∀ K' : Act → World → Prop, Hid (∀ a w, ((ls.setIfInBounds i true).getD k true = false → T w) → Till P md ops Q T k n (ls.setIfInBounds i true) a w → K' a w) →
      if Region.wanted o (yielded ops a.tmps) = true then Oper.wp P o a w K' Q else K' (a.put o.dst undef) w) : Till P md ops Q T k (n + 1) ls a w :=
  ⟨fun h0 => (by rw [hr] at h0; cases h0), fun j hj => by
    rw [hr] at hj
    obtain rfl := List.mem_singleton.1 hj
    exact wpOp_step ho fun K' hK => h K' fun a w h1 h2 => hK a w ⟨h1, h2⟩⟩

theorem Till.done {ls : Array Bool} {a : Act} {w : World} (hr : Region.ready md ops ls = []) (h : Q .normal a w) : ∀ n, Till P md ops Q T k n ls a w
  | 0 => ⟨hr, h⟩
  | _ + 1 => ⟨fun _ => h, by rw [hr]; intro i hi; cases hi⟩

theorem region_till {id : Nat} {a : Act} {w : World} (k : Nat) (T : World → Prop) (hm : P.follows .mixedOrders = true)
    (h : Till P .any ops Q T k ops.size (Array.replicate ops.size false) a w.drew) : (Code.region id ops true).wp P Q a w :=
  wp_region_any hm (Till.any _ _ _ _ h)
end
end Go.Proofs.YtcfhaljkemaefaaGreatDoor

namespace Go.Proofs.YtcfhaljkemaefaaGreatDoor
open Go.RowKit Limb Nmb Work
set_option linter.unusedVariables false
set_option linter.unusedSimpArgs false

set_option maxHeartbeats 2000000 in
set_option maxRecDepth 100000 in
theorem record_c (r : Rec) (w : World) (s1 : r.kind.size ≤ 9223372036854775807) (s2 : r.key.size ≤ 9223372036854775807) (s3 : r.text.size ≤ 9223372036854775807) (s4 : r.dig.size ≤ 9223372036854775807) (hz : ZCell w) :
    Calls Tryz.prog 23 #[recG r] w (RetFt (recF dgsL r) w) := by
  obtain ⟨t, kd, ky, dg, dp, tx⟩ := r
  dsimp only at s1 s2 s3 s4
  have HFD := Lib.hid (fun w => fields_c t kd ky tx w s1 s2 s3)
  have HID := Lib.hid (fun w => isdigest_c dg w s4)
  obtain ⟨F, hF⟩ : ∃ F, fldF t kd.data.toList ky.data.toList tx.data.toList = F := ⟨_, rfl⟩
  obtain ⟨R, hR⟩ : ∃ R, recF dgsL ⟨t, kd, ky, dg, dp, tx⟩ = R := ⟨_, rfl⟩
  rw [hR]
  unfold recF at hR
  dsimp only at hR
  rw [hF] at hR HFD
  have HR := Lib.hid hR
  have HZ := Lib.hid hz
  clear hF hR s1 s2 s4 hz
  unfold recG
  go_enter Tryz.func23, Tryz.ntmps23
  go_wp2_with fail
  refine (HFD.out _).mono ?_
  rintro e w2 ⟨rfl, hb2⟩
  have r0 : ∀ j v, (#[Value.int .i64 t, .string kd, .string ky, .string dg, .bool dp, .string tx] : Array Value)[j]? = some v → w2.cell? ⟨w.heap.size, j, none⟩ = some v := fun j v h => by
    rw [hb2.cell (by simp), World.cell?_alloc_new]; exact h
  have q0 := r0 0 _ rfl; have q1 := r0 1 _ rfl; have q2 := r0 2 _ rfl; have q3 := r0 3 _ rfl; have q4 := r0 4 _ rfl; have q5 := r0 5 _ rfl
  have hlt : w.heap.size < w2.heap.size := Nat.lt_of_lt_of_le (by simp) hb2.size
  have HB2 := Lib.hid (below_then hb2 ((Below.refl w.heap.size w).alloc (Nat.le_refl _) (.cells #[.int .i64 t, .string kd, .string ky, .string dg, .bool dp, .string tx] 45)) (by simp))
  clear r0 hb2
  by_cases hf : F = 0
  case neg =>
    obtain rfl : R = F := by rw [← HR.out, if_pos hf]
    have hf' : (R == 0) = false := by simpa using hf
    clear HR hf
    go_wp2
    go_ret
    exact ⟨rfl, HB2.out⟩
  subst hf
  have HR1 := Lib.hid (HR.out.symm.trans (if_neg (by decide)))
  clear HR
  have emp : tx.toList.isEmpty = decide (tx = ⟨#[]⟩) := by
    rw [Lib.toList_data, Bool.eq_iff_iff, decide_eq_true_iff, List.isEmpty_iff]
    exact ⟨fun h => ByteArray.ext (Array.toList_eq_nil_iff.1 h), fun h => by rw [h]⟩
  by_cases ha : dp = true ∧ tx ≠ ⟨#[]⟩
  · obtain rfl : R = 3 := by rw [HR1.out, if_pos (.inl ha)]
    obtain ⟨rfl, ha2⟩ := ha
    rw [decide_eq_false ha2] at emp
    clear HR1 ha2
    go_wp2
    go_ret
    exact ⟨rfl, HB2.out⟩
  cases hd : isDigB dg.data.toList
  · obtain rfl : R = 3 := by rw [HR1.out, if_pos (.inr hd)]
    rw [hd] at HID
    clear HR1 hd
    cases dp
    · clear ha emp
      go_wp2_with fail
      refine (HID.out _).mono ?_
      rintro e w3 ⟨rfl, hb3⟩
      have u4 := (hb3.cell (p := ⟨w.heap.size, 4, none⟩) hlt).trans q4
      have u5 := (hb3.cell (p := ⟨w.heap.size, 5, none⟩) hlt).trans q5
      have u3 := (hb3.cell (p := ⟨w.heap.size, 3, none⟩) hlt).trans q3
      have HB3 := Lib.hid (below_then hb3 HB2.out HB2.out.size)
      clear hb3
      go_wp2
      go_ret
      exact ⟨rfl, HB3.out⟩
    · have ha2 : tx = ⟨#[]⟩ := Classical.byContradiction fun h => ha ⟨rfl, h⟩
      rw [decide_eq_true ha2] at emp
      clear ha ha2
      go_wp2_with fail
      refine (HID.out _).mono ?_
      rintro e w3 ⟨rfl, hb3⟩
      have u4 := (hb3.cell (p := ⟨w.heap.size, 4, none⟩) hlt).trans q4
      have u5 := (hb3.cell (p := ⟨w.heap.size, 5, none⟩) hlt).trans q5
      have u3 := (hb3.cell (p := ⟨w.heap.size, 3, none⟩) hlt).trans q3
      have HB3 := Lib.hid (below_then hb3 HB2.out HB2.out.size)
      clear hb3
      go_wp2
      go_ret
      exact ⟨rfl, HB3.out⟩
  rw [hd] at HID
  have HR2 := Lib.hid (HR1.out.trans (if_neg (fun h => by rcases h with h | h; exact ha h; rw [hd] at h; cases h)))
  clear HR1 hd
  cases dp
  · clear ha emp
    go_wp2_with fail
    refine (HID.out _).mono ?_
    rintro e w3 ⟨rfl, hb3⟩
    have u4 := (hb3.cell (p := ⟨w.heap.size, 4, none⟩) hlt).trans q4
    have u5 := (hb3.cell (p := ⟨w.heap.size, 5, none⟩) hlt).trans q5
    have u3 := (hb3.cell (p := ⟨w.heap.size, 3, none⟩) hlt).trans q3
    have hlt3 : w.heap.size < w3.heap.size := Nat.lt_of_lt_of_le hlt hb3.size
    have HB3 := Lib.hid (below_then hb3 HB2.out HB2.out.size)
    clear hb3 q0 q1 q2 q3 q4 q5 hlt
    obtain ⟨cap, w5, hcv, hb5, hlt5, hcl⟩ := conv_c tx w3.drew
    have HB5 := Lib.hid (show Below w.heap.size w w5 from below_then hb5 HB3.out.drew HB3.out.drew.size)
    have hsl : tx.data.toList.length = tx.size := by simp
    have HDG := Lib.hid (digest_c w3.heap.size cap tx.data.toList w5 hcl (by omega) (HZ.out.below HB5.out))
    rw [hsl] at HDG
    obtain ⟨D, hD⟩ : ∃ D, dgsB tx.data.toList = D := ⟨_, rfl⟩
    rw [hD] at HDG
    have HD := Lib.hid (show (dgsL tx.data.toList ≠ dg.data.toList) ↔ ¬ D = dg by
      rw [← hD]
      unfold dgsB
      refine not_congr ⟨fun h => ByteArray.ext (by rw [h]), fun h => by rw [← h]⟩)
    have HB35 := Lib.hid hb5
    clear hD hcl hb5 hsl s3
    have v3 := (HB35.out.cell (p := ⟨w.heap.size, 3, none⟩) hlt3).trans u3
    have HV3 := Lib.hid v3
    have HU3 := Lib.hid u3
    clear v3
    go_wp2_with fail
    have hT : (fun w' : World => w'.cell? ⟨w.heap.size, 3, none⟩ = some (.string dg) ∧ w'.cell? ⟨w.heap.size, 4, none⟩ = some (.bool false) ∧ w'.cell? ⟨w.heap.size, 5, none⟩ = some (.string tx)) w3.drew := ⟨u3, u4, u5⟩
    have HT5 : (fun w' : World => w'.cell? ⟨w.heap.size, 3, none⟩ = some (.string dg) ∧ w'.cell? ⟨w.heap.size, 4, none⟩ = some (.bool false) ∧ w'.cell? ⟨w.heap.size, 5, none⟩ = some (.string tx)) w5 := ⟨(HB35.out.cell (p := ⟨w.heap.size, 3, none⟩) hlt3).trans u3, (HB35.out.cell (p := ⟨w.heap.size, 4, none⟩) hlt3).trans u4, (HB35.out.cell (p := ⟨w.heap.size, 5, none⟩) hlt3).trans u5⟩
    have hlt5' : w.heap.size < w5.heap.size := Nat.lt_trans hlt3 hlt5
    refine region_till 12 (fun w' : World => w'.cell? ⟨w.heap.size, 3, none⟩ = some (.string dg) ∧ w'.cell? ⟨w.heap.size, 4, none⟩ = some (.bool false) ∧ w'.cell? ⟨w.heap.size, 5, none⟩ = some (.string tx)) (by kernel_rfl) ?_
    refine Till.take (i := 0) (v := ?_) rfl (by kernel_rfl) (by kernel_rfl) (by kernel_rfl) [1, 2, 3, 11] (by kernel_rfl) (by decide) (by kernel_rfl) (by kernel_rfl) (fun _ _ _ h => h) hT (Or.inl ⟨by rfl, ?_⟩) ?_
    rotate_left
    · (intro w' hw'; obtain ⟨c3, c4, c5⟩ := hw'; go_simp; try with_reducible rfl)
    (try simp only [Act.put, List.setIfInBounds_toArray, List.set_cons_zero, List.set_cons_succ])
    refine Till.take (i := 1) (v := ?_) rfl (by kernel_rfl) (by kernel_rfl) (by kernel_rfl) [2, 3, 11] (by kernel_rfl) (by decide) (by kernel_rfl) (by kernel_rfl) (fun _ _ _ h => h) hT (Or.inl ⟨by rfl, ?_⟩) ?_
    rotate_left
    · (intro w' hw'; obtain ⟨c3, c4, c5⟩ := hw'; go_simp; try with_reducible rfl)
    (try simp only [Act.put, List.setIfInBounds_toArray, List.set_cons_zero, List.set_cons_succ])
    refine Till.take (i := 2) (v := ?_) rfl (by kernel_rfl) (by kernel_rfl) (by kernel_rfl) [3, 11] (by kernel_rfl) (by decide) (by kernel_rfl) (by kernel_rfl) (fun _ _ _ h => h) hT (Or.inl ⟨by rfl, ?_⟩) ?_
    rotate_left
    · (intro w' hw'; obtain ⟨c3, c4, c5⟩ := hw'; go_simp; try with_reducible rfl)
    (try simp only [Act.put, List.setIfInBounds_toArray, List.set_cons_zero, List.set_cons_succ])
    refine Till.take (i := 3) (v := ?_) rfl (by kernel_rfl) (by kernel_rfl) (by kernel_rfl) [11] (by kernel_rfl) (by decide) (by kernel_rfl) (by kernel_rfl) (fun _ _ _ h => h) hT (Or.inl ⟨by rfl, ?_⟩) ?_
    rotate_left
    · (intro w' hw'; obtain ⟨c3, c4, c5⟩ := hw'; go_simp; try with_reducible rfl)
    (try simp only [Act.put, List.setIfInBounds_toArray, List.set_cons_zero, List.set_cons_succ])
    refine Till.take (i := 4) (v := ?_) rfl (by kernel_rfl) (by kernel_rfl) (by kernel_rfl) [5, 6, 7, 10, 11] (by kernel_rfl) (by decide) (by kernel_rfl) (by kernel_rfl) (fun _ _ _ h => h) hT (Or.inl ⟨by rfl, ?_⟩) ?_
    rotate_left
    · (intro w' hw'; obtain ⟨c3, c4, c5⟩ := hw'; go_simp; try with_reducible rfl)
    (try simp only [Act.put, List.setIfInBounds_toArray, List.set_cons_zero, List.set_cons_succ])
    refine Till.take (i := 5) (v := ?_) rfl (by kernel_rfl) (by kernel_rfl) (by kernel_rfl) [6, 7, 10, 11] (by kernel_rfl) (by decide) (by kernel_rfl) (by kernel_rfl) (fun _ _ _ h => h) hT (Or.inl ⟨by rfl, ?_⟩) ?_
    rotate_left
    · (intro w' hw'; obtain ⟨c3, c4, c5⟩ := hw'; go_simp; try with_reducible rfl)
    (try simp only [Act.put, List.setIfInBounds_toArray, List.set_cons_zero, List.set_cons_succ])
    refine Till.take (i := 8) (v := ?_) rfl (by kernel_rfl) (by kernel_rfl) (by kernel_rfl) [9, 10, 11] (by kernel_rfl) (by decide) (by kernel_rfl) (by kernel_rfl) (fun _ _ _ h => h) hT (Or.inl ⟨by rfl, ?_⟩) ?_
    rotate_left
    · (intro w' hw'; obtain ⟨c3, c4, c5⟩ := hw'; go_simp; try with_reducible rfl)
    (try simp only [Act.put, List.setIfInBounds_toArray, List.set_cons_zero, List.set_cons_succ])
    refine Till.take (i := 9) (v := ?_) rfl (by kernel_rfl) (by kernel_rfl) (by kernel_rfl) [10, 11] (by kernel_rfl) (by decide) (by kernel_rfl) (by kernel_rfl) (fun _ _ _ h => h) hT (Or.inl ⟨by rfl, ?_⟩) ?_
    rotate_left
    · (intro w' hw'; obtain ⟨c3, c4, c5⟩ := hw'; go_simp; try with_reducible rfl)
    (try simp only [Act.put, List.setIfInBounds_toArray, List.set_cons_zero, List.set_cons_succ])
    refine Till.step (i := 6) (by kernel_rfl) rfl ?_
    intro K hK
    go_simp
    have hT := HT5
    refine hK.out _ _ (fun _ => hT) ?_
    clear hK K
    (try simp only [Act.put, List.setIfInBounds_toArray, List.set_cons_zero, List.set_cons_succ])
    refine Till.step (i := 7) (by kernel_rfl) rfl ?_
    intro K hK
    go_simp
    (refine HDG.out.mono ?_; rintro e w6 ⟨rfl, hb6⟩)
    have hT : (fun w' : World => w'.cell? ⟨w.heap.size, 3, none⟩ = some (.string dg) ∧ w'.cell? ⟨w.heap.size, 4, none⟩ = some (.bool false) ∧ w'.cell? ⟨w.heap.size, 5, none⟩ = some (.string tx)) w6 := ⟨(hb6.cell (p := ⟨w.heap.size, 3, none⟩) hlt5').trans hT.1, (hb6.cell (p := ⟨w.heap.size, 4, none⟩) hlt5').trans hT.2.1, (hb6.cell (p := ⟨w.heap.size, 5, none⟩) hlt5').trans hT.2.2⟩
    refine hK.out _ _ (fun _ => hT) ?_
    clear hK K
    (try simp only [Act.put, List.setIfInBounds_toArray, List.set_cons_zero, List.set_cons_succ])
    refine Till.step (i := 10) (by kernel_rfl) rfl ?_
    intro K hK
    go_simp
    refine hK.out _ _ (fun _ => hT) ?_
    clear hK K
    (try simp only [Act.put, List.setIfInBounds_toArray, List.set_cons_zero, List.set_cons_succ])
    refine Till.step (i := 11) (by kernel_rfl) rfl ?_
    intro K hK
    go_simp
    refine hK.out _ _ (fun _ => hT) ?_
    clear hK K
    (try simp only [Act.put, List.setIfInBounds_toArray, List.set_cons_zero, List.set_cons_succ])
    refine Till.step (i := 12) (by kernel_rfl) rfl ?_
    intro K hK
    go_simp
    refine hK.out _ _ (fun h => absurd h (by decide)) ?_
    clear hK K
    (try simp only [Act.put, List.setIfInBounds_toArray, List.set_cons_zero, List.set_cons_succ])
    refine Till.done (by kernel_rfl) ?_ _
    have HB6 := Lib.hid (below_then hb6 HB5.out HB5.out.size)
    clear hT HT5 hb6 u3 u4 u5
    obtain ⟨bb, hbb⟩ : ∃ bb : Bool, (!(D.toList == dg.toList)) = bb := ⟨_, rfl⟩
    rw [hbb]
    cases bb
    · have hdd : D = dg := (Lib.bytes_beq_iff _ _).1 (by simpa using hbb)
      obtain rfl : R = 0 := by rw [HR2.out, if_neg (fun h => (HD.out.1 h.2) hdd)]
      clear HR2 HD hdd hbb
      go_wp2
      go_ret
      first | exact ⟨rfl, HB6.out⟩ | exact ⟨trivial, HB6.out⟩
    · have hdd : ¬ D = dg := (Lib.bytes_beq_false_iff _ _).1 (by simpa using hbb)
      obtain rfl : R = 15 := by rw [HR2.out, if_pos ⟨by trivial, HD.out.2 hdd⟩]
      clear HR2 HD hdd hbb
      go_wp2
      go_ret
      first | exact ⟨rfl, HB6.out⟩ | exact ⟨trivial, HB6.out⟩
  · obtain rfl : R = 0 := by rw [HR2.out, if_neg (fun h => by cases h.1)]
    have ha2 : tx = ⟨#[]⟩ := Classical.byContradiction fun h => ha ⟨rfl, h⟩
    rw [decide_eq_true ha2] at emp
    clear ha ha2 HR2
    · skip
      go_wp2_with fail
      refine (HID.out _).mono ?_
      rintro e w3 ⟨rfl, hb3⟩
      have u4 := (hb3.cell (p := ⟨w.heap.size, 4, none⟩) hlt).trans q4
      have u5 := (hb3.cell (p := ⟨w.heap.size, 5, none⟩) hlt).trans q5
      have u3 := (hb3.cell (p := ⟨w.heap.size, 3, none⟩) hlt).trans q3
      have HB3 := Lib.hid (below_then hb3 HB2.out HB2.out.size)
      clear hb3
      go_wp2
      go_quiet (fail)
      go_wp2
      go_ret
      exact ⟨rfl, by first | exact HB3.out | exact HB3.out.drew | (exact below_drewN HB3.out _) | go_grown⟩
end Go.Proofs.YtcfhaljkemaefaaGreatDoor
