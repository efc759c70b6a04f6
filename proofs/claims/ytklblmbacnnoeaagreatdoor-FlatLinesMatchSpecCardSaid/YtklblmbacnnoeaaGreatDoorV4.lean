/- A region that draws its order: its loads may be taken first as long as its first store has not come up. The walks of the reference's isPlain, isOf, written. (Printed by genV4.py.) -/
import Derived.Deep.RegionHeld3
import Derived.StillTail
import Derived.WalkKit
import Derived.Lib.Hide
import Derived.Test.YtklblmbacnnoeaaGreatDoorV2
import Derived.Test.YtklblmbacnnoeaaGreatDoorV3
import Derived.Test.YtklblmbacnnoeaaGreatDoorM5
import Derived.Test.YtklblmbacnnoeaaGreatDoorT16
import Derived.Test.YtklblmbacnnoeaaGreatDoorT17
-- merged: RH V4

namespace Go.Proofs.YtklblmbacnnoeaaGreatDoor
open Go.RowKit

section
variable {P : Program} {ops : Array Oper} {Q : Exit → Act → World → Prop} {md : Region.Mode} {T : World → Prop} {k : Nat}

/-- All orders from here on; T is known of every world that is met before operation k has come up. -/
def Till (P : Program) (md : Region.Mode) (ops : Array Oper) (Q : Exit → Act → World → Prop) (T : World → Prop) (k : Nat) : Nat → Array Bool → Act → World → Prop
  | 0, ls, a, w => Region.ready md ops ls = [] ∧ Q .normal a w
  | n + 1, ls, a, w => (Region.ready md ops ls = [] → Q .normal a w) ∧
      ∀ i ∈ Region.ready md ops ls, wpOp P ops Q i (fun a' w' => ((ls.setIfInBounds i true).getD k true = false → T w') ∧ Till P md ops Q T k n (ls.setIfInBounds i true) a' w') a w

theorem Till.any : ∀ (n : Nat) (ls : Array Bool) (a : Act) (w : World), Till P md ops Q T k n ls a w → wpAny P md ops Q n ls a w
  | 0, _, _, _, h => h
  | n + 1, _, _, _, h => ⟨h.1, fun i hi => wpOp_mono (fun a' w' h' => Till.any n _ a' w' h'.2) (h.2 i hi)⟩

/-- What has come up has come up behind what it waits for. -/
def Closed (md : Region.Mode) (ops : Array Oper) (ls : Array Bool) : Prop :=
  ∀ (j : Nat) (oj : Oper), ops[j]? = some oj → ls.getD j false = true → ∀ e ∈ oj.after, Region.binds md e = true → ls.getD e.on false = true
def closedB (md : Region.Mode) (ops : Array Oper) (ls : Array Bool) : Bool :=
  (List.range ops.size).all fun j => !(ls.getD j false) || match ops[j]? with
    | some oj => oj.after.all fun e => !(Region.binds md e) || ls.getD e.on false
    | none => true
theorem closed_of {ls : Array Bool} (h : closedB md ops ls = true) : Closed md ops ls := by
  intro j oj ho hl e he hb
  unfold closedB at h
  rw [List.all_eq_true] at h
  have hj : j < ops.size := by
    rcases Nat.lt_or_ge j ops.size with h | h
    · exact h
    · rw [Array.getElem?_eq_none h] at ho; cases ho
  have h1 := h j (List.mem_range.2 hj)
  rw [hl, ho] at h1
  simp only [Bool.not_true, Bool.false_or] at h1
  have h2 := Array.all_eq_true_iff_forall_mem.1 h1 e he
  rw [hb] at h2
  simpa using h2
theorem Closed.set {ls : Array Bool} (h : Closed md ops ls) {j : Nat} (hj : j ∈ Region.ready md ops ls) : Closed md ops (ls.setIfInBounds j true) := by
  intro m om ho hl e he hb
  by_cases hm : j = m
  · subst hm
    obtain ⟨_, o', ho', hall⟩ := mem_ready.1 hj
    rw [ho] at ho'
    injection ho' with ho'
    subst ho'
    exact getD_set_true (hall e he hb)
  · rw [getD_set_ne false hm] at hl
    exact getD_set_true (h m om ho hl e he hb)
/-- k waits for i, by way of those of the list. -/
def waitsBy (md : Region.Mode) (ops : Array Oper) : Nat → List Nat → Nat → Bool
  | i, [], k => Region.waitsFor md ops k i
  | i, j :: l, k => Region.waitsFor md ops j i && waitsBy md ops j l k
theorem Closed.back {ls : Array Bool} (h : Closed md ops ls) : ∀ (l : List Nat) (i : Nat), waitsBy md ops i l k = true → k ∈ Region.ready md ops ls → ls.getD i false = true
  | [], i, hw, hk => by
    obtain ⟨oj, ho, e, he, hb, hon⟩ := Region.waitsFor_spec hw
    obtain ⟨_, o', ho', hall⟩ := mem_ready.1 hk
    rw [ho] at ho'
    injection ho' with ho'
    subst ho'
    exact hon ▸ hall e he hb
  | j :: l, i, hw, hk => by
    unfold waitsBy at hw
    rw [Bool.and_eq_true] at hw
    obtain ⟨oj, ho, e, he, hb, hon⟩ := Region.waitsFor_spec hw.1
    exact hon ▸ h j oj ho (h.back l j hw.2 hk) e he hb
theorem not_listed {i : Nat} {ls : Array Bool} (hi : i ∈ Region.ready md ops ls) (h1 : ls.getD i false = true) : False := by
  have h0 := (mem_ready.1 hi).1
  rcases Nat.lt_or_ge i ls.size with h | h
  · simp [h] at h0 h1
    rw [h0] at h1
    cases h1
  · simp [Array.getElem?_eq_none h] at h1

theorem Till.first {i : Nat} {oi : Oper} {v : Value} (hi : ops[i]? = some oi) (hsel : ∀ (j : Nat) (o : Oper) cs b, ops[j]? = some o → o.op ≠ .select cs b)
    (hQ : ∀ c a w, Q (.panic c) (a.put oi.dst v) w → Q (.panic c) a w) {l : List Nat} (hk : waitsBy md ops i l k = true) (hki : k ≠ i) :
    ∀ (n : Nat) (ls : Array Bool) (a : Act) (w : World),
      (∀ j oj, ops[j]? = some oj → j ≠ i → ls.getD j true = false → (∀ e ∈ oj.after, Region.binds md e = true → e.on ≠ i) → oi.apart ops oj = true) →
      i ∈ Region.ready md ops ls → Closed md ops ls → ls.getD k true = false → YieldsIf P ops T oi v a → T w →
      Till P md ops Q T k n (ls.setIfInBounds i true) (a.put oi.dst v) w → Till P md ops Q T k (n + 1) ls a w := by
  intro n
  induction n with
  | zero =>
    intro ls a w _ hr _ _ hy hT H
    refine ⟨fun h => (by rw [h] at hr; cases hr), fun j hj => ?_⟩
    by_cases hji : j = i
    · subst hji
      exact hy.wpOp hi hT ⟨fun _ => hT, H⟩
    · have h := ready_mono hj hji
      rw [H.1] at h
      cases h
  | succ n ih =>
    intro ls a w hfree hr hcl hkl hy hT H
    refine ⟨fun h => (by rw [h] at hr; cases hr), fun j hj => ?_⟩
    by_cases hji : j = i
    · subst hji
      exact hy.wpOp hi hT ⟨fun _ => hT, H⟩
    · have hjk : j ≠ k := fun e => not_listed hr (hcl.back l i hk (e ▸ hj))
      obtain ⟨hun, oj, ho, hall⟩ := mem_ready.1 hj
      have hno : ∀ e ∈ oj.after, Region.binds md e = true → e.on ≠ i := fun e he hb hon =>
        not_listed hr (hon ▸ hall e he hb)
      have h2 := wpOp_putIf ho (hfree j oj ho hji hun hno) (fun cs b => hsel i oi cs b hi) (fun cs b => hsel j oj cs b ho) hQ hy (H.2 j (ready_mono hj hji))
      refine wpOp_mono (fun a' w' h3 => ?_) h2
      obtain ⟨hy', hT', hrest⟩ := h3
      have hTw : T w' := hT' (by rw [getD_set_ne true hjk, getD_set_ne true (Ne.symm hki)]; exact hkl)
      refine ⟨fun _ => hTw, ih _ a' w' ?_ (ready_mono hr (Ne.symm hji)) (hcl.set hj) (by rw [getD_set_ne true hjk]; exact hkl) hy' hTw ?_⟩
      · intro m om hm hmi hmu hmn
        refine hfree m om hm hmi ?_ hmn
        by_cases hjm : j = m
        · subst hjm; exact hun
        · rwa [getD_set_ne true hjm] at hmu
      · rw [Array.setIfInBounds_comm _ _ hji]
        exact hrest

theorem Till.take {i : Nat} {oi : Oper} {v : Value} {n : Nat} {ls : Array Bool} {a : Act} {w : World} (hi : ops[i]? = some oi)
    (hs : Region.noSelect ops = true) (hf : Region.free md ops ls i = true) (hr : (Region.ready md ops ls).contains i = true) (l : List Nat) (hk : waitsBy md ops i l k = true) (hki : k ≠ i) (hcl : closedB md ops ls = true) (hkl : ls.getD k true = false)
    (hQ : ∀ c a w, Q (.panic c) (a.put oi.dst v) w → Q (.panic c) a w) (hT : T w) (hy : YieldsIf P ops T oi v a)
    (h : Till P md ops Q T k n (ls.setIfInBounds i true) (a.put oi.dst v) w) : Till P md ops Q T k (n + 1) ls a w :=
  Till.first hi (Region.noSelect_spec hs) hQ hk hki n ls a w (Region.free_spec hi hf) (by simpa using hr) (closed_of hcl) hkl hy hT h

theorem Till.step {i : Nat} {o : Oper} {n : Nat} {ls : Array Bool} {a : Act} {w : World} (hr : Region.ready md ops ls = [i]) (ho : ops[i]? = some o)
    (h : ∀ K' : Act → World → Prop, Hid (∀ a w, ((ls.setIfInBounds i true).getD k true = false → T w) → Till P md ops Q T k n (ls.setIfInBounds i true) a w → K' a w) →
      if Region.wanted o (yielded ops a.tmps) = true then Oper.wp P o a w K' Q else K' (a.put o.dst undef) w) : Till P md ops Q T k (n + 1) ls a w :=
  ⟨fun h0 => (by rw [hr] at h0; cases h0), fun j hj => by
    rw [hr] at hj
    obtain rfl := List.mem_singleton.1 hj
    exact wpOp_step ho fun K' hK => h K' fun a w h1 h2 => hK a w ⟨h1, h2⟩⟩

theorem Till.done {ls : Array Bool} {a : Act} {w : World} (hr : Region.ready md ops ls = []) (h : Q .normal a w) : ∀ n, Till P md ops Q T k n ls a w
  | 0 => ⟨hr, h⟩
  | _ + 1 => ⟨fun _ => h, by rw [hr]; intro i hi; cases hi⟩

theorem region_till {id : Nat} {a : Act} {w : World} (k : Nat) (T : World → Prop) (hm : P.follows .mixedOrders = true)
    (h : Till P .any ops Q T k ops.size (Array.replicate ops.size false) a w.drew) : (Code.region id ops true).wp P Q a w :=
  wp_region_any hm (Till.any _ _ _ _ h)
end
end Go.Proofs.YtklblmbacnnoeaaGreatDoor

namespace Go.Proofs.YtklblmbacnnoeaaGreatDoor
open Go.RowKit Limb Nmb Work
set_option linter.unusedVariables false
set_option linter.unusedSimpArgs false

theorem vdec_shift {m : Nat} (h : 0 < m) : ∀ k, Lib.decDigits (m * 10 ^ k) = Lib.decDigits m ++ List.replicate k 48
  | 0 => by simp
  | k + 1 => by
    have h1 : 0 < m * 10 ^ (k + 1) := Nat.mul_pos h (Nat.pow_pos (by decide))
    have h2 : 0 < m * 10 ^ k := Nat.mul_pos h (Nat.pow_pos (by decide))
    have h3 : m * 10 ^ (k + 1) = 10 * (m * 10 ^ k) := by rw [Nat.pow_succ, ← Nat.mul_assoc, Nat.mul_comm]
    rw [← tail_pos h1, tail_step h1, h3, Nat.mul_div_cancel_left _ (by decide), tail_pos h2, vdec_shift h k, Nat.mul_mod_right, List.append_assoc]
    congr 1
    rw [List.replicate_succ']
    rfl
theorem vitoas_c (v : Int) (w : World) (h : -9223372036854775808 ≤ v ∧ v ≤ 9223372036854775807) (ht : Tab w) :
    Calls Tryz.prog 104 #[.int .i64 v] w fun e w' => e = .returned (.string ⟨(Lib.itoa v).toArray⟩) ∧ Below w.heap.size w w' := by
  refine (Tryz.strconv_Itoa v h.1 h.2 w ht).mono ?_
  rintro e w' ⟨rfl, k, os, rfl⟩
  exact ⟨rfl, Lib.below_grow _ w (Nat.le_refl _) k os⟩
theorem vu8_ge (n : Nat) (h : n < 256) : (UInt8.ofNat n).toNat = n := by rw [UInt8.toNat_ofNat']; exact Nat.mod_eq_of_lt h
theorem vdec_48 : ∀ (n : Nat), ∀ c ∈ Lib.decDigits n, 48 ≤ c.toNat ∧ c.toNat ≤ 57 := by
  intro n
  induction n using Nat.strongRecOn with
  | _ n ih =>
    rw [Lib.decDigits]
    by_cases h : n < 10
    · rw [dif_pos h]
      have e := vu8_ge (48 + n) (by omega)
      intro c hc
      obtain rfl := List.mem_singleton.1 hc
      omega
    · rw [dif_neg h]
      have e := vu8_ge (48 + n % 10) (by omega)
      intro c hc
      rw [List.mem_append] at hc
      rcases hc with hc | hc
      · exact ih (n / 10) (by omega) c hc
      · obtain rfl := List.mem_singleton.1 hc
        omega
theorem vtrim_itoa (v : Int) : Lib.trimPrefix (Lib.itoa v) [45] = Lib.decDigits v.natAbs := by
  unfold Lib.itoa Lib.trimPrefix
  by_cases h : v < 0
  · rw [if_pos h]
    rw [if_pos (by simp [Lib.hasPrefix])]
    rfl
  · rw [if_neg h, show v.toNat = v.natAbs by omega]
    have h1 := vdec_48 v.natAbs
    rcases hd : Lib.decDigits v.natAbs with _ | ⟨c, l⟩
    · rfl
    · rw [hd] at h1
      have := h1 c (by simp)
      have hc : c ≠ 45 := by rintro rfl; simp at this
      rw [if_neg (by simp [Lib.hasPrefix]; exact fun e => hc e.symm)]

/-! ### isPlain -/
theorem txt_bad {s : ByteArray} (h : inB s.data.toList 32 126 = false) : txtOk s.data.toList = false := by
  unfold txtOk
  rw [← show inB s.data.toList 32 126 = inL s.data.toList 32 126 from inB_inL _ 32 126, h]
  rfl
theorem txt_ends {s : ByteArray} (h : inB s.data.toList 32 126 = true) (h0 : 0 < s.size) : txtOk s.data.toList = (!decide ((s[0].toNat : Int) = 32) && !decide (((s[s.size - 1]'(by omega)).toNat : Int) = 32)) := by
  unfold txtOk
  rw [← show inB s.data.toList 32 126 = inL s.data.toList 32 126 from inB_inL _ 32 126, h, Bool.true_and]
  have hl : 0 < s.data.toList.length := by simpa using h0
  have e1 : s.data.toList.head? = some s[0] := by rw [List.head?_eq_getElem?, List.getElem?_eq_getElem hl]; rfl
  have e2 : s.data.toList.getLast? = some (s[s.size - 1]'(by omega)) := by
    rw [List.getLast?_eq_getElem?, List.getElem?_eq_getElem (by omega)]
    simp only [Array.length_toList]
    rfl
  have k : ∀ c : UInt8, ((c.toNat : Int) = 32) ↔ c = 32 := fun c => ⟨fun h => UInt8.toNat_inj.1 (by have : (32 : UInt8).toNat = 32 := rfl; omega), fun h => by rw [h]; rfl⟩
  rw [Bool.eq_iff_iff, decide_eq_true_iff, trim_id, e1, e2]
  simp only [Bool.and_eq_true, Bool.not_eq_true', decide_eq_false_iff_not, k]
  constructor
  · rintro ⟨a, b⟩; exact ⟨fun h => a (by rw [h]), fun h => b (by rw [h])⟩
  · rintro ⟨a, b⟩; exact ⟨fun h => a (Option.some.inj h), fun h => b (Option.some.inj h)⟩
set_option maxHeartbeats 1000000 in
set_option maxRecDepth 100000 in
theorem isplain_c (s : ByteArray) (w : World) (h0 : 0 < s.size) (hs : s.size ≤ 9223372036854775807) :
    Calls Tryz.prog 101 #[.string s] w fun e w' => w = w' ∧ e = .returned (.bool (txtOk s.data.toList)) := by
  cases h : inB s.data.toList 32 126 with
  | true =>
    rw [txt_ends h h0]
    obtain ⟨N, hN⟩ : ∃ N, s.size = N + 1 := ⟨s.size - 1, by omega⟩
    obtain ⟨RES, hRES⟩ : ∃ x, (!decide ((s[0].toNat : Int) = 32) && !decide (((s[s.size - 1]'(by omega)).toNat : Int) = 32)) = x := ⟨_, rfl⟩
    have HA := Lib.hid (show RES = ((s[0].toNat : Int) != 32 && ((s[N]'(by omega)).toNat : Int) != 32) by
      have e : s.size - 1 = N := by omega
      rw [← hRES]
      simp only [e]
      rfl)
    rw [hRES]
    clear hRES
    go_enter Tryz.func101, Tryz.ntmps101
    go_wp2
    go_loop [6] (fun i => ∃ j : Nat, j ≤ s.size ∧ i = .int .i64 j) (fun i => s.size - (intOf i).toNat)
    case atStart => exact ⟨0, Nat.zero_le _, rfl⟩
    case round =>
      obtain ⟨j, hj, rfl⟩ := hrel
      rcases Nat.lt_or_ge j s.size with hjn | hjn
      · have hb := inB_at h j hjn
        have h1 : ¬ (s[j].toNat : Int) < 32 := by omega
        have h2 : ¬ 126 < (s[j].toNat : Int) := by omega
        clear hb
        go_wp2
        go_round
        case rel => exact ⟨j + 1, by omega, by go_num⟩
        case measure => simp [intOf]; omega
      · by_cases h1 : (s[0].toNat : Int) = 32
        · have k1 : ((s[0].toNat : Int) != 32) = false := by simpa using h1
          have HX := Lib.hid (show false = RES by rw [HA.out, k1]; rfl)
          clear h1
          go_wp2
          go_ret
          exact ⟨rfl, congrArg (fun b => Ending.returned (Value.bool b)) HX.out⟩
        · have k1 : ((s[0].toNat : Int) != 32) = true := by simpa using h1
          have HX := Lib.hid (show (((s[N]'(by omega)).toNat : Int) != 32) = RES by rw [HA.out, k1]; rfl)
          clear h1
          go_wp2
          go_ret
          exact ⟨rfl, congrArg (fun b => Ending.returned (Value.bool b)) HX.out⟩
  | false =>
    rw [txt_bad h]
    obtain ⟨m, hm, hbad, hgood⟩ := inB_bad h
    have hm' : m < s.size := by simpa using hm
    clear h
    go_enter Tryz.func101, Tryz.ntmps101
    go_wp2
    go_loop [6] (fun i => ∃ j : Nat, j ≤ m ∧ i = .int .i64 j) (fun i => s.size - (intOf i).toNat)
    case atStart => exact ⟨0, Nat.zero_le _, rfl⟩
    case round =>
      obtain ⟨j, hj, rfl⟩ := hrel
      have hjn : j < s.size := by omega
      rcases Nat.lt_or_ge j m with hjm | hjm
      · have hb := hgood j hjm
        rw [data_get s j hjn] at hb
        have h1 : ¬ (s[j].toNat : Int) < 32 := by omega
        have h2 : ¬ 126 < (s[j].toNat : Int) := by omega
        clear hb hbad hgood
        go_wp2
        go_round
        case rel => exact ⟨j + 1, by omega, by go_num⟩
        case measure => simp [intOf]; omega
      · obtain rfl : j = m := by omega
        have hb := hbad
        rw [data_get s j hjn] at hb
        clear hbad hgood
        by_cases h1 : (s[j].toNat : Int) < 32
        · clear hb
          go_wp2
          go_ret
          exact ⟨rfl, rfl⟩
        · have h2 : 126 < (s[j].toNat : Int) := by omega
          clear hb
          go_wp2
          go_ret
          exact ⟨rfl, rfl⟩
set_option maxHeartbeats 2000000 in
set_option maxRecDepth 100000 in
theorem isof_c (c : Col) (s : ByteArray) (w : World) (h0 : 0 < s.size) (hs : s.size ≤ 9223372036854775807) :
    Calls Tryz.prog 50 #[colG c, .string s] w (RetB (valOk c s.data.toList) w) := by
  obtain ⟨nm, kd, wd, pl, fm, rt, fl, nd⟩ := c
  unfold colG valOk
  simp only
  have hX := heap_new w (.cells #[.string nm, .int .i64 kd, .int .i64 wd, .int .i64 pl, .int .i64 fm, .bool rt, .int .u8 fl, .bool nd] 60) rfl
  have hB0 : Below w.heap.size w (w.alloc (.cells #[.string nm, .int .i64 kd, .int .i64 wd, .int .i64 pl, .int .i64 fm, .bool rt, .int .u8 fl, .bool nd] 60)) := by go_grown
  by_cases h2 : kd = 2
  · subst h2
    rw [if_pos rfl]
    have HR := Lib.hid (fun w => rreadtext_c s w hs)
    obtain ⟨⟨u, p, e⟩, hr⟩ : ∃ x, readText s.data.toList = x := ⟨_, rfl⟩
    have hC := dec_cases pl s.data.toList
    rw [hr] at HR hC
    simp only at hC
    have HO := Lib.hid hC
    clear hr hC
    unfold RetD at HR
    rcases HO.out with ⟨h1, h3⟩ | ⟨h1, q, h3, h4, h5⟩
    · rw [h3]
      have h1' : (e == 0) = false := beq_eq_false_iff_ne.2 h1
      clear h1 h3
      go_enter Tryz.func50, Tryz.ntmps50
      go_wp2_with fail
      refine (HR.out _).mono ?_
      rintro e w1 ⟨rfl, hb1⟩
      have hX1 := heap_below hX hb1
      have hB1 := below_then hb1 hB0 hB0.size
      obtain ⟨⟨x0, x1, x2, x3, x4, x5, x6, x7⟩, x8⟩ := obox8 hX1
      clear hX hX1 hb1
      have hBD : Below w.heap.size w (w1.alloc (.cells #[.int .i64 u, .int .i64 p] 41)) := by go_grown
      go_wp2
      go_quiet (fail)
      go_wp2
      go_ret
      exact ⟨rfl, below_drewN hBD _⟩
    · subst h1
      subst h3
      rw [h5]
      have HL := Lib.hid (fun w => normal_c u q w h4)
      unfold RetLe at HL
      obtain ⟨⟨v, r⟩, hv⟩ : ∃ x, leastF u q = x := ⟨_, rfl⟩
      rw [hv] at HL ⊢
      obtain ⟨RES, hRES⟩ : ∃ x, (decide ((q : Int) ≤ pl) && decide ((v, r) = (u, (q : Int)))) = x := ⟨_, rfl⟩
      have HRES := Lib.hid hRES
      rw [hRES]
      clear hRES
      clear h5 hv h4
      go_enter Tryz.func50, Tryz.ntmps50
      go_wp2_with fail
      refine (HR.out _).mono ?_
      rintro e w1 ⟨rfl, hb1⟩
      have hX1 := heap_below hX hb1
      have hB1 := below_then hb1 hB0 hB0.size
      obtain ⟨⟨x0, x1, x2, x3, x4, x5, x6, x7⟩, x8⟩ := obox8 hX1
      have HX1 := Lib.hid hX1
      clear hX hb1
      have hD := heap_new w1 (.cells #[.int .i64 u, .int .i64 (q : Int)] 41) rfl
      have hX2 := heap_old HX1.out (.cells #[.int .i64 u, .int .i64 (q : Int)] 41)
      have hBD : Below w.heap.size w (w1.alloc (.cells #[.int .i64 u, .int .i64 (q : Int)] 41)) := by go_grown
      clear x0 x1 x2 x3 x4 x5 x6 x7 x8 hX1 HX1
      go_upto_region 4 with fail
      obtain ⟨D, hDD⟩ : ∃ D, w1.heap.size = D := ⟨_, rfl⟩
      rw [hDD] at hD ⊢
      have hwD : w.heap.size ≤ D := by have := hB1.size; omega
      generalize w1.alloc (.cells #[.int .i64 u, .int .i64 (q : Int)] 41) = w2 at hD hX2 hBD ⊢
      obtain ⟨⟨x0, x1, x2, x3, x4, x5, x6, x7⟩, x8⟩ := obox8 hX2
      obtain ⟨d0, d1, -, -, d2⟩ := box2 hD
      clear hX2 hD hB1 hDD
      obtain ⟨B, hBB⟩ : ∃ B, decide ((v, r) = (u, (q : Int))) = B := ⟨_, rfl⟩
      obtain ⟨P, hPP⟩ : ∃ P, decide ((q : Int) ≤ pl) = P := ⟨_, rfl⟩
      have HBB := Lib.hid (show (decide ((q : Int) ≤ pl) && decide ((v, r) = (u, (q : Int)))) = (P && B) by rw [hPP, hBB])
      have hQ1 := eql_dec v r u q
      have hQ2 := grd_dec
      rw [hBB] at hQ1
      clear hBB
      have hT : (fun w' : World => w'.cell? ⟨D, 0, none⟩ = some (.int .i64 u) ∧ w'.cell? ⟨D, 1, none⟩ = some (.int .i64 (q : Int)) ∧ w'.cell? ⟨w.heap.size, 3, none⟩ = some (.int .i64 pl)) w2.drew := ⟨d0, d1, x3⟩
      cases B with
      | false =>
        refine region_till 15 (fun w' : World => w'.cell? ⟨D, 0, none⟩ = some (.int .i64 u) ∧ w'.cell? ⟨D, 1, none⟩ = some (.int .i64 (q : Int)) ∧ w'.cell? ⟨w.heap.size, 3, none⟩ = some (.int .i64 pl)) (by kernel_rfl) ?_
        refine Till.take (i := 0) (v := ?_) rfl (by kernel_rfl) (by kernel_rfl) (by kernel_rfl) [1, 2, 7, 8, 14] (by kernel_rfl) (by decide) (by kernel_rfl) (by kernel_rfl) (fun _ _ _ h => h) hT (Or.inl ⟨by rfl, ?_⟩) ?_
        rotate_left
        · (intro w' hw'; obtain ⟨u1, u2, u3⟩ := hw'; go_simp; try with_reducible rfl)
        (try simp only [Act.put, List.setIfInBounds_toArray, List.set_cons_zero, List.set_cons_succ])
        refine Till.take (i := 1) (v := ?_) rfl (by kernel_rfl) (by kernel_rfl) (by kernel_rfl) [2, 7, 8, 14] (by kernel_rfl) (by decide) (by kernel_rfl) (by kernel_rfl) (fun _ _ _ h => h) hT (Or.inl ⟨by rfl, ?_⟩) ?_
        rotate_left
        · (intro w' hw'; obtain ⟨u1, u2, u3⟩ := hw'; go_simp; try with_reducible rfl)
        (try simp only [Act.put, List.setIfInBounds_toArray, List.set_cons_zero, List.set_cons_succ])
        refine Till.take (i := 2) (v := ?_) rfl (by kernel_rfl) (by kernel_rfl) (by kernel_rfl) [7, 8, 14] (by kernel_rfl) (by decide) (by kernel_rfl) (by kernel_rfl) (fun _ _ _ h => h) hT (Or.inl ⟨by rfl, ?_⟩) ?_
        rotate_left
        · (intro w' hw'; obtain ⟨u1, u2, u3⟩ := hw'; go_simp; try with_reducible rfl)
        (try simp only [Act.put, List.setIfInBounds_toArray, List.set_cons_zero, List.set_cons_succ])
        refine Till.take (i := 3) (v := ?_) rfl (by kernel_rfl) (by kernel_rfl) (by kernel_rfl) [4, 6, 7, 8, 14] (by kernel_rfl) (by decide) (by kernel_rfl) (by kernel_rfl) (fun _ _ _ h => h) hT (Or.inl ⟨by rfl, ?_⟩) ?_
        rotate_left
        · (intro w' hw'; obtain ⟨u1, u2, u3⟩ := hw'; go_simp; try with_reducible rfl)
        (try simp only [Act.put, List.setIfInBounds_toArray, List.set_cons_zero, List.set_cons_succ])
        refine Till.take (i := 5) (v := ?_) rfl (by kernel_rfl) (by kernel_rfl) (by kernel_rfl) [6, 7, 8, 14] (by kernel_rfl) (by decide) (by kernel_rfl) (by kernel_rfl) (fun _ _ _ h => h) hT (Or.inl ⟨by rfl, ?_⟩) ?_
        rotate_left
        · (intro w' hw'; obtain ⟨u1, u2, u3⟩ := hw'; go_simp; try with_reducible rfl)
        (try simp only [Act.put, List.setIfInBounds_toArray, List.set_cons_zero, List.set_cons_succ])
        refine Till.step (i := 4) (by kernel_rfl) rfl ?_
        intro K hK
        go_simp
        (go_at_call 99; (with_reducible refine (HL.out _).mono ?_); rintro e w3 ⟨rfl, hb3⟩)
        have hT : (fun w' : World => w'.cell? ⟨D, 0, none⟩ = some (.int .i64 u) ∧ w'.cell? ⟨D, 1, none⟩ = some (.int .i64 (q : Int)) ∧ w'.cell? ⟨w.heap.size, 3, none⟩ = some (.int .i64 pl)) w3 := ⟨(hb3.cell (p := ⟨D, 0, none⟩) d2).trans d0, (hb3.cell (p := ⟨D, 1, none⟩) d2).trans d1, (hb3.cell (p := ⟨w.heap.size, 3, none⟩) x8).trans x3⟩
        refine hK.out _ _ (fun _ => hT) ?_
        clear hK K
        (try simp only [Act.put, List.setIfInBounds_toArray, List.set_cons_zero, List.set_cons_succ])
        refine Till.take (i := 6) (v := ?_) rfl (by kernel_rfl) (by kernel_rfl) (by kernel_rfl) [7, 8, 14] (by kernel_rfl) (by decide) (by kernel_rfl) (by kernel_rfl) (fun _ _ _ h => h) hT (Or.inl ⟨by rfl, ?_⟩) ?_
        rotate_left
        · (intro w' hw'; obtain ⟨u1, u2, u3⟩ := hw'; go_simp; try with_reducible rfl)
        (try simp only [Act.put, List.setIfInBounds_toArray, List.set_cons_zero, List.set_cons_succ])
        refine Till.take (i := 7) (v := ?_) rfl (by kernel_rfl) (by kernel_rfl) (by kernel_rfl) [8, 14] (by kernel_rfl) (by decide) (by kernel_rfl) (by kernel_rfl) (fun _ _ _ h => h) hT (Or.inl ⟨by rfl, ?_⟩) ?_
        rotate_left
        · (intro w' hw'; obtain ⟨u1, u2, u3⟩ := hw'; go_simp; try with_reducible rfl)
        (try simp only [Act.put, List.setIfInBounds_toArray, List.set_cons_zero, List.set_cons_succ])
        refine Till.take (i := 8) (v := ?_) rfl (by kernel_rfl) (by kernel_rfl) (by kernel_rfl) [14] (by kernel_rfl) (by decide) (by kernel_rfl) (by kernel_rfl) (fun _ _ _ h => h) hT (Or.inl ⟨by rfl, ?_⟩) ?_
        rotate_left
        · (intro w' hw'; obtain ⟨u1, u2, u3⟩ := hw'; go_simp; try with_reducible rfl)
        (try simp only [Act.put, List.setIfInBounds_toArray, List.set_cons_zero, List.set_cons_succ])
        refine Till.take (i := 9) (v := undef) rfl (by kernel_rfl) (by kernel_rfl) (by kernel_rfl) [10, 13, 14] (by kernel_rfl) (by decide) (by kernel_rfl) (by kernel_rfl) (fun _ _ _ h => h) hT (Or.inr ⟨by rfl, rfl⟩) ?_
        (try simp only [Act.put, List.setIfInBounds_toArray, List.set_cons_zero, List.set_cons_succ])
        refine Till.take (i := 10) (v := undef) rfl (by kernel_rfl) (by kernel_rfl) (by kernel_rfl) [13, 14] (by kernel_rfl) (by decide) (by kernel_rfl) (by kernel_rfl) (fun _ _ _ h => h) hT (Or.inr ⟨by rfl, rfl⟩) ?_
        (try simp only [Act.put, List.setIfInBounds_toArray, List.set_cons_zero, List.set_cons_succ])
        refine Till.take (i := 11) (v := undef) rfl (by kernel_rfl) (by kernel_rfl) (by kernel_rfl) [12, 13, 14] (by kernel_rfl) (by decide) (by kernel_rfl) (by kernel_rfl) (fun _ _ _ h => h) hT (Or.inr ⟨by rfl, rfl⟩) ?_
        (try simp only [Act.put, List.setIfInBounds_toArray, List.set_cons_zero, List.set_cons_succ])
        refine Till.take (i := 12) (v := undef) rfl (by kernel_rfl) (by kernel_rfl) (by kernel_rfl) [13, 14] (by kernel_rfl) (by decide) (by kernel_rfl) (by kernel_rfl) (fun _ _ _ h => h) hT (Or.inr ⟨by rfl, rfl⟩) ?_
        (try simp only [Act.put, List.setIfInBounds_toArray, List.set_cons_zero, List.set_cons_succ])
        refine Till.take (i := 13) (v := undef) rfl (by kernel_rfl) (by kernel_rfl) (by kernel_rfl) [14] (by kernel_rfl) (by decide) (by kernel_rfl) (by kernel_rfl) (fun _ _ _ h => h) hT (Or.inr ⟨by rfl, rfl⟩) ?_
        (try simp only [Act.put, List.setIfInBounds_toArray, List.set_cons_zero, List.set_cons_succ])
        refine Till.take (i := 14) (v := ?_) rfl (by kernel_rfl) (by kernel_rfl) (by kernel_rfl) [] (by kernel_rfl) (by decide) (by kernel_rfl) (by kernel_rfl) (fun _ _ _ h => h) hT (Or.inl ⟨by rfl, ?_⟩) ?_
        rotate_left
        · (intro w' hw'; obtain ⟨u1, u2, u3⟩ := hw'; go_simp; try with_reducible rfl)
        (try simp only [Act.put, List.setIfInBounds_toArray, List.set_cons_zero, List.set_cons_succ])
        refine Till.step (i := 15) (by kernel_rfl) rfl ?_
        intro K hK
        go_simp
        refine hK.out _ _ (fun h => absurd h (by decide)) ?_
        clear hK K
        (try simp only [Act.put, List.setIfInBounds_toArray, List.set_cons_zero, List.set_cons_succ])
        refine Till.done (by kernel_rfl) ?_ _
        have hB3 := below_then hb3 hBD.drew hBD.size
        go_wp2
        go_ret
        exact ⟨congrArg (fun b => Ending.returned (Value.bool b)) (show false = RES by rw [← HRES.out, HBB.out, Bool.and_false]), hB3⟩
      | true =>
        refine region_till 15 (fun w' : World => w'.cell? ⟨D, 0, none⟩ = some (.int .i64 u) ∧ w'.cell? ⟨D, 1, none⟩ = some (.int .i64 (q : Int)) ∧ w'.cell? ⟨w.heap.size, 3, none⟩ = some (.int .i64 pl)) (by kernel_rfl) ?_
        refine Till.take (i := 0) (v := ?_) rfl (by kernel_rfl) (by kernel_rfl) (by kernel_rfl) [1, 2, 7, 8, 14] (by kernel_rfl) (by decide) (by kernel_rfl) (by kernel_rfl) (fun _ _ _ h => h) hT (Or.inl ⟨by rfl, ?_⟩) ?_
        rotate_left
        · (intro w' hw'; obtain ⟨u1, u2, u3⟩ := hw'; go_simp; try with_reducible rfl)
        (try simp only [Act.put, List.setIfInBounds_toArray, List.set_cons_zero, List.set_cons_succ])
        refine Till.take (i := 1) (v := ?_) rfl (by kernel_rfl) (by kernel_rfl) (by kernel_rfl) [2, 7, 8, 14] (by kernel_rfl) (by decide) (by kernel_rfl) (by kernel_rfl) (fun _ _ _ h => h) hT (Or.inl ⟨by rfl, ?_⟩) ?_
        rotate_left
        · (intro w' hw'; obtain ⟨u1, u2, u3⟩ := hw'; go_simp; try with_reducible rfl)
        (try simp only [Act.put, List.setIfInBounds_toArray, List.set_cons_zero, List.set_cons_succ])
        refine Till.take (i := 2) (v := ?_) rfl (by kernel_rfl) (by kernel_rfl) (by kernel_rfl) [7, 8, 14] (by kernel_rfl) (by decide) (by kernel_rfl) (by kernel_rfl) (fun _ _ _ h => h) hT (Or.inl ⟨by rfl, ?_⟩) ?_
        rotate_left
        · (intro w' hw'; obtain ⟨u1, u2, u3⟩ := hw'; go_simp; try with_reducible rfl)
        (try simp only [Act.put, List.setIfInBounds_toArray, List.set_cons_zero, List.set_cons_succ])
        refine Till.take (i := 3) (v := ?_) rfl (by kernel_rfl) (by kernel_rfl) (by kernel_rfl) [4, 6, 7, 8, 14] (by kernel_rfl) (by decide) (by kernel_rfl) (by kernel_rfl) (fun _ _ _ h => h) hT (Or.inl ⟨by rfl, ?_⟩) ?_
        rotate_left
        · (intro w' hw'; obtain ⟨u1, u2, u3⟩ := hw'; go_simp; try with_reducible rfl)
        (try simp only [Act.put, List.setIfInBounds_toArray, List.set_cons_zero, List.set_cons_succ])
        refine Till.take (i := 5) (v := ?_) rfl (by kernel_rfl) (by kernel_rfl) (by kernel_rfl) [6, 7, 8, 14] (by kernel_rfl) (by decide) (by kernel_rfl) (by kernel_rfl) (fun _ _ _ h => h) hT (Or.inl ⟨by rfl, ?_⟩) ?_
        rotate_left
        · (intro w' hw'; obtain ⟨u1, u2, u3⟩ := hw'; go_simp; try with_reducible rfl)
        (try simp only [Act.put, List.setIfInBounds_toArray, List.set_cons_zero, List.set_cons_succ])
        refine Till.step (i := 4) (by kernel_rfl) rfl ?_
        intro K hK
        go_simp
        (go_at_call 99; (with_reducible refine (HL.out _).mono ?_); rintro e w3 ⟨rfl, hb3⟩)
        have hT : (fun w' : World => w'.cell? ⟨D, 0, none⟩ = some (.int .i64 u) ∧ w'.cell? ⟨D, 1, none⟩ = some (.int .i64 (q : Int)) ∧ w'.cell? ⟨w.heap.size, 3, none⟩ = some (.int .i64 pl)) w3 := ⟨(hb3.cell (p := ⟨D, 0, none⟩) d2).trans d0, (hb3.cell (p := ⟨D, 1, none⟩) d2).trans d1, (hb3.cell (p := ⟨w.heap.size, 3, none⟩) x8).trans x3⟩
        refine hK.out _ _ (fun _ => hT) ?_
        clear hK K
        (try simp only [Act.put, List.setIfInBounds_toArray, List.set_cons_zero, List.set_cons_succ])
        refine Till.take (i := 6) (v := ?_) rfl (by kernel_rfl) (by kernel_rfl) (by kernel_rfl) [7, 8, 14] (by kernel_rfl) (by decide) (by kernel_rfl) (by kernel_rfl) (fun _ _ _ h => h) hT (Or.inl ⟨by rfl, ?_⟩) ?_
        rotate_left
        · (intro w' hw'; obtain ⟨u1, u2, u3⟩ := hw'; go_simp; try with_reducible rfl)
        (try simp only [Act.put, List.setIfInBounds_toArray, List.set_cons_zero, List.set_cons_succ])
        refine Till.take (i := 7) (v := ?_) rfl (by kernel_rfl) (by kernel_rfl) (by kernel_rfl) [8, 14] (by kernel_rfl) (by decide) (by kernel_rfl) (by kernel_rfl) (fun _ _ _ h => h) hT (Or.inl ⟨by rfl, ?_⟩) ?_
        rotate_left
        · (intro w' hw'; obtain ⟨u1, u2, u3⟩ := hw'; go_simp; try with_reducible rfl)
        (try simp only [Act.put, List.setIfInBounds_toArray, List.set_cons_zero, List.set_cons_succ])
        refine Till.take (i := 8) (v := ?_) rfl (by kernel_rfl) (by kernel_rfl) (by kernel_rfl) [14] (by kernel_rfl) (by decide) (by kernel_rfl) (by kernel_rfl) (fun _ _ _ h => h) hT (Or.inl ⟨by rfl, ?_⟩) ?_
        rotate_left
        · (intro w' hw'; obtain ⟨u1, u2, u3⟩ := hw'; go_simp; try with_reducible rfl)
        (try simp only [Act.put, List.setIfInBounds_toArray, List.set_cons_zero, List.set_cons_succ])
        refine Till.take (i := 9) (v := ?_) rfl (by kernel_rfl) (by kernel_rfl) (by kernel_rfl) [10, 13, 14] (by kernel_rfl) (by decide) (by kernel_rfl) (by kernel_rfl) (fun _ _ _ h => h) hT (Or.inl ⟨by rfl, ?_⟩) ?_
        rotate_left
        · (intro w' hw'; obtain ⟨u1, u2, u3⟩ := hw'; go_simp; try with_reducible rfl)
        (try simp only [Act.put, List.setIfInBounds_toArray, List.set_cons_zero, List.set_cons_succ])
        refine Till.take (i := 10) (v := ?_) rfl (by kernel_rfl) (by kernel_rfl) (by kernel_rfl) [13, 14] (by kernel_rfl) (by decide) (by kernel_rfl) (by kernel_rfl) (fun _ _ _ h => h) hT (Or.inl ⟨by rfl, ?_⟩) ?_
        rotate_left
        · (intro w' hw'; obtain ⟨u1, u2, u3⟩ := hw'; go_simp; try with_reducible rfl)
        (try simp only [Act.put, List.setIfInBounds_toArray, List.set_cons_zero, List.set_cons_succ])
        refine Till.take (i := 11) (v := ?_) rfl (by kernel_rfl) (by kernel_rfl) (by kernel_rfl) [12, 13, 14] (by kernel_rfl) (by decide) (by kernel_rfl) (by kernel_rfl) (fun _ _ _ h => h) hT (Or.inl ⟨by rfl, ?_⟩) ?_
        rotate_left
        · (intro w' hw'; obtain ⟨u1, u2, u3⟩ := hw'; go_simp; try with_reducible rfl)
        (try simp only [Act.put, List.setIfInBounds_toArray, List.set_cons_zero, List.set_cons_succ])
        refine Till.take (i := 12) (v := ?_) rfl (by kernel_rfl) (by kernel_rfl) (by kernel_rfl) [13, 14] (by kernel_rfl) (by decide) (by kernel_rfl) (by kernel_rfl) (fun _ _ _ h => h) hT (Or.inl ⟨by rfl, ?_⟩) ?_
        rotate_left
        · (intro w' hw'; obtain ⟨u1, u2, u3⟩ := hw'; go_simp; try with_reducible rfl)
        (try simp only [Act.put, List.setIfInBounds_toArray, List.set_cons_zero, List.set_cons_succ])
        refine Till.take (i := 13) (v := ?_) rfl (by kernel_rfl) (by kernel_rfl) (by kernel_rfl) [14] (by kernel_rfl) (by decide) (by kernel_rfl) (by kernel_rfl) (fun _ _ _ h => h) hT (Or.inl ⟨by rfl, ?_⟩) ?_
        rotate_left
        · (intro w' hw'; obtain ⟨u1, u2, u3⟩ := hw'; go_simp; try with_reducible rfl)
        (try simp only [Act.put, List.setIfInBounds_toArray, List.set_cons_zero, List.set_cons_succ])
        refine Till.take (i := 14) (v := ?_) rfl (by kernel_rfl) (by kernel_rfl) (by kernel_rfl) [] (by kernel_rfl) (by decide) (by kernel_rfl) (by kernel_rfl) (fun _ _ _ h => h) hT (Or.inl ⟨by rfl, ?_⟩) ?_
        rotate_left
        · (intro w' hw'; obtain ⟨u1, u2, u3⟩ := hw'; go_simp; try with_reducible rfl)
        (try simp only [Act.put, List.setIfInBounds_toArray, List.set_cons_zero, List.set_cons_succ])
        refine Till.step (i := 15) (by kernel_rfl) rfl ?_
        intro K hK
        go_simp
        refine hK.out _ _ (fun h => absurd h (by decide)) ?_
        clear hK K
        (try simp only [Act.put, List.setIfInBounds_toArray, List.set_cons_zero, List.set_cons_succ])
        refine Till.done (by kernel_rfl) ?_ _
        have hB3 := below_then hb3 hBD.drew hBD.size
        go_wp2
        go_ret
        exact ⟨congrArg (fun b => Ending.returned (Value.bool b)) (show P = RES by rw [← HRES.out, HBB.out, Bool.and_true]), hB3⟩
  · rw [if_neg h2]
    have k2 : (kd == 2) = false := beq_eq_false_iff_ne.2 h2
    clear h2
    by_cases h3 : kd = 3
    · subst h3
      rw [if_pos rfl]
      have HR := Lib.hid (fun w => rReadDay_c s 1 1 w hs)
      have hf := rd_longF s.data.toList
      unfold RetNF at HR
      generalize rdN 1 1 s.data.toList = N at HR
      generalize rdF 1 1 s.data.toList = F at HR hf
      generalize dayOk s.data.toList = D at hf
      go_enter Tryz.func50, Tryz.ntmps50
      go_wp2_with fail
      refine (HR.out _).mono ?_
      rintro e w1 ⟨rfl, hb1⟩
      have hB1 := below_then hb1 hB0 hB0.size
      go_wp2
      go_ret
      exact ⟨rfl, hB1⟩
    · rw [if_neg h3]
      have k3 : (kd == 3) = false := beq_eq_false_iff_ne.2 h3
      clear h3
      have HI := Lib.hid (fun w => isplain_c s w h0 hs)
      generalize txtOk s.data.toList = X at HI
      go_enter Tryz.func50, Tryz.ntmps50
      go_wp2_with fail
      refine (HI.out _).mono ?_
      rintro e w1 ⟨rfl, rfl⟩
      go_wp2
      go_ret
      exact ⟨rfl, hB0⟩
end Go.Proofs.YtklblmbacnnoeaaGreatDoor
