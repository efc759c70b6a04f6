/- Plain facts about numbers that are written with digits of a base, the lowest digit first. No program in sight. -/
import Derived.Deep.RegionHeld3
import Derived.StillTail
import Derived.WalkKit
import Derived.Lib.Hide
-- merged: Limbs RH
namespace Go.Proofs.YthjlleifpnpfgaaGreatDoor.Limb
def val (b : Nat) : List Nat -> Nat
 | [] => 0
 | d :: l => d + b * val b l
def Digs (b : Nat) (l : List Nat) : Prop := ∀ d ∈ l, d < b
def Norm (l : List Nat) : Prop := ∀ d, l.getLast? = some d -> d ≠ 0
theorem val_nil (b : Nat) : val b [] = 0 := rfl
theorem val_cons (b d : Nat) (l : List Nat) : val b (d :: l) = d + b * val b l := rfl
theorem val_append (b : Nat) (l m : List Nat) : val b (l ++ m) = val b l + b ^ l.length * val b m := by
 induction l with
 | nil => simp [val]
 | cons d l ih =>
  simp only [List.cons_append, val_cons, ih, List.length_cons, Nat.pow_succ, Nat.mul_add]
  have : b ^ l.length * b * val b m = b * (b ^ l.length * val b m) := by
   rw [Nat.mul_comm (b ^ l.length) b, Nat.mul_assoc]
  omega
theorem val_snoc (b : Nat) (l : List Nat) (d : Nat) : val b (l ++ [d]) = val b l + b ^ l.length * d := by
 rw [val_append]; simp [val]
theorem Digs.nil (b : Nat) : Digs b [] := by intro d h; cases h
theorem Digs.append {b : Nat} {l m : List Nat} (h : Digs b l) (k : Digs b m) : Digs b (l ++ m) := by
 intro d hd
 rcases List.mem_append.1 hd with hd | hd
 ·exact h d hd
 ·exact k d hd
theorem Digs.snoc {b d : Nat} {l : List Nat} (h : Digs b l) (hd : d < b) : Digs b (l ++ [d]) :=
 h.append (by intro x hx; simp at hx; omega)
theorem Digs.take {b : Nat} {l : List Nat} (h : Digs b l) (k : Nat) : Digs b (l.take k) := fun d hd => h d (List.mem_of_mem_take hd)
theorem Digs.drop {b : Nat} {l : List Nat} (h : Digs b l) (k : Nat) : Digs b (l.drop k) := fun d hd => h d (List.mem_of_mem_drop hd)
theorem Digs.getD {b : Nat} {l : List Nat} (h : Digs b l) (hb : 0 < b) (k : Nat) : l.getD k 0 < b := by
 rw [List.getD_eq_getElem?_getD]
 rcases Nat.lt_or_ge k l.length with hk | hk
 ·rw [List.getElem?_eq_getElem hk]; exact h _ (List.getElem_mem hk)
 ·rw [List.getElem?_eq_none hk]; exact hb
theorem Digs.get {b : Nat} {l : List Nat} (h : Digs b l) {k : Nat} (hk : k < l.length) : l[k] < b := h _ (List.getElem_mem hk)
theorem getD_get {l : List Nat} {k : Nat} (h : k < l.length) : l.getD k 0 = l[k] := by
 rw [List.getD_eq_getElem?_getD, List.getElem?_eq_getElem h]; rfl
theorem val_take_succ (b : Nat) (l : List Nat) (k : Nat) : val b (l.take (k + 1)) = val b (l.take k) + b ^ k * l.getD k 0 := by
 rcases Nat.lt_or_ge k l.length with hk | hk
 ·rw [List.take_succ_eq_append_getElem hk, val_snoc, List.length_take, Nat.min_eq_left (by omega), getD_get hk]
 ·rw [List.take_of_length_le (by omega), List.take_of_length_le hk, List.getD_eq_getElem?_getD, List.getElem?_eq_none hk]; simp
theorem val_split (b : Nat) (l : List Nat) (k : Nat) (hk : k <= l.length) : val b l = val b (l.take k) + b ^ k * val b (l.drop k) := by
 have h := val_append b (l.take k) (l.drop k)
 rw [List.take_append_drop, List.length_take, Nat.min_eq_left hk] at h
 exact h
theorem val_lt {b : Nat} {l : List Nat} (h : Digs b l) : val b l < b ^ l.length := by
 induction l with
 | nil => simp [val]
 | cons d l ih =>
  have hd : d < b := h d (by simp)
  have hl := ih fun x hx => h x (by simp [hx])
  rw [val_cons, List.length_cons, Nat.pow_succ, Nat.mul_comm _ b]
  have h2 : b * (val b l + 1) <= b * b ^ l.length := Nat.mul_le_mul_left b hl
  rw [Nat.mul_add] at h2
  omega
theorem norm_nil : Norm [] := by intro d h; cases h
theorem norm_snoc {l : List Nat} {d : Nat} : Norm (l ++ [d]) ↔ d ≠ 0 := by
 unfold Norm
 rw [List.getLast?_append]
 simp
theorem snoc_of {l : List Nat} (h : l ≠ []) : ∃ m d, l = m ++ [d] := ⟨l.dropLast, l.getLast h, (List.dropLast_concat_getLast h).symm⟩
theorem val_ge {b : Nat} {l : List Nat} (hn : Norm l) (hl : l ≠ []) : b ^ (l.length - 1) <= val b l := by
 obtain ⟨m, d, rfl⟩ := snoc_of hl
 have hd := norm_snoc.1 hn
 rw [val_snoc, List.length_append, List.length_singleton, Nat.add_sub_cancel]
 have : b ^ m.length * 1 <= b ^ m.length * d := Nat.mul_le_mul_left _ (by omega)
 omega
theorem val_pos {b : Nat} (hb : 0 < b) {l : List Nat} (hn : Norm l) (hl : l ≠ []) : 0 < val b l :=
 Nat.lt_of_lt_of_le (Nat.pow_pos hb) (val_ge hn hl)
theorem len_le {b K : Nat} (hb : 1 < b) {l : List Nat} (hn : Norm l) (hv : val b l < b ^ K) : l.length <= K := by
 rcases Classical.em (l = []) with rfl | e
 ·simp
 ·have h := val_ge (b := b) hn e
  have h2 : b ^ (l.length - 1) < b ^ K := Nat.lt_of_le_of_lt h hv
  have h3 := (Nat.pow_lt_pow_iff_right hb).1 h2
  omega
theorem val_lt_of_len {b : Nat} (hb : 1 < b) {l m : List Nat} (hl : Digs b l) (hm : Norm m) (h : l.length < m.length) : val b l < val b m := by
 have hne : m ≠ [] := by intro e; rw [e] at h; simp at h
 have h1 := val_lt hl
 have h2 := val_ge (b := b) hm hne
 have h3 : b ^ l.length <= b ^ (m.length - 1) := Nat.pow_le_pow_right (by omega) (by omega)
 omega
theorem val_lt_of_digit {b : Nat} {l m : List Nat} {k : Nat} (hl : Digs b l) (hk : k < l.length) (hk' : k < m.length)
  (ht : l.drop (k + 1) = m.drop (k + 1)) (h : l.getD k 0 < m.getD k 0) : val b l < val b m := by
 rw [val_split b l (k + 1) hk, val_split b m (k + 1) hk', ht, val_take_succ, val_take_succ]
 have h1 := val_lt (hl.take k)
 rw [List.length_take, Nat.min_eq_left (by omega)] at h1
 have h2 : b ^ k * (l.getD k 0 + 1) <= b ^ k * m.getD k 0 := Nat.mul_le_mul_left _ h
 rw [Nat.mul_add] at h2
 omega
theorem drop_eq_step {l m : List Nat} {k : Nat} (hk : k < l.length) (hk' : k < m.length) (ht : l.drop (k + 1) = m.drop (k + 1)) (h : l.getD k 0 = m.getD k 0) : l.drop k = m.drop k := by
 rw [List.drop_eq_getElem_cons hk, List.drop_eq_getElem_cons hk', ht]
 rw [getD_get hk, getD_get hk'] at h
 rw [h]
def trim (l : List Nat) : List Nat := (l.reverse.dropWhile (· == 0)).reverse
theorem trim_snoc_zero (l : List Nat) : trim (l ++ [0]) = trim l := by simp [trim]
theorem trim_snoc_pos (l : List Nat) {d : Nat} (h : d ≠ 0) : trim (l ++ [d]) = l ++ [d] := by simp [trim, h]
theorem snoc_induction {P : List Nat -> Prop} (h0 : P []) (h1 : ∀ l d, P l -> P (l ++ [d])) (l : List Nat) : P l := by
 have : ∀ n (l : List Nat), l.length = n -> P l := by
  intro n
  induction n with
  | zero => intro l hl; rw [List.length_eq_zero_iff] at hl; subst hl; exact h0
  | succ n ih =>
   intro l hl
   obtain ⟨m, d, rfl⟩ := snoc_of (l := l) (by intro e; subst e; simp at hl)
   exact h1 _ _ (ih m (by simpa using hl))
 exact this _ l rfl
theorem val_trim (b : Nat) (l : List Nat) : val b (trim l) = val b l := by
 refine snoc_induction (P := fun l => val b (trim l) = val b l) rfl ?_ l
 intro l d ih
 by_cases h : d = 0
 ·subst h; rw [trim_snoc_zero, ih, val_snoc]; simp
 ·rw [trim_snoc_pos l h]
theorem norm_trim (l : List Nat) : Norm (trim l) := by
 refine snoc_induction (P := fun l => Norm (trim l)) norm_nil ?_ l
 intro l d ih
 by_cases h : d = 0
 ·subst h; rw [trim_snoc_zero]; exact ih
 ·rw [trim_snoc_pos l h]; exact norm_snoc.2 h
theorem trim_prefix (l : List Nat) : ∃ k, k <= l.length /\ trim l = l.take k := by
 refine snoc_induction (P := fun l => ∃ k, k <= l.length /\ trim l = l.take k) ⟨0, by simp, rfl⟩ ?_ l
 intro l d ⟨k, hk, e⟩
 by_cases h : d = 0
 ·subst h
  refine ⟨k, by simp; omega, ?_⟩
  rw [trim_snoc_zero, e, List.take_append_of_le_length hk]
 ·exact ⟨l.length + 1, by simp, by rw [trim_snoc_pos l h, List.take_of_length_le (by simp)]⟩
theorem digs_trim {b : Nat} {l : List Nat} (h : Digs b l) : Digs b (trim l) := by
 obtain ⟨k, _, e⟩ := trim_prefix l
 rw [e]; exact h.take k
theorem pow_split (P b t : Nat) : P * (t % b) + P * b * (t / b) = P * t := by
 rw [Nat.mul_assoc, <- Nat.mul_add, Nat.mod_add_div]
theorem sum_step {b : Nat} {os : List Nat} {c x y p q : Nat} (h : val b os + b ^ os.length * c = x + y) :
  val b (os ++ [(c + p + q) % b]) + b ^ (os.length + 1) * ((c + p + q) / b) = (x + b ^ os.length * p) + (y + b ^ os.length * q) := by
 rw [val_snoc, Nat.pow_succ]
 have := pow_split (b ^ os.length) b (c + p + q)
 rw [Nat.mul_add, Nat.mul_add] at this
 omega
theorem carry_le {b c p q : Nat} (hc : c <= 1) (hp : p < b) (hq : q < b) : (c + p + q) / b <= 1 := by
 have : (c + p + q) / b < 2 := by
  rw [Nat.div_lt_iff_lt_mul (by omega)]; omega
 omega
end Go.Proofs.YthjlleifpnpfgaaGreatDoor.Limb
namespace Go.Proofs.YthjlleifpnpfgaaGreatDoor
open Go.RowKit
section
variable {P : Program} {ops : Array Oper} {Q : Exit -> Act -> World -> Prop} {md : Region.Mode} {T : World -> Prop} {k : Nat}
def Till (P : Program) (md : Region.Mode) (ops : Array Oper) (Q : Exit -> Act -> World -> Prop) (T : World -> Prop) (k : Nat) : Nat -> Array Bool -> Act -> World -> Prop
 | 0, ls, a, w => Region.ready md ops ls = [] /\ Q .normal a w
 | n + 1, ls, a, w => (Region.ready md ops ls = [] -> Q .normal a w) /\
   ∀ i ∈ Region.ready md ops ls, wpOp P ops Q i (fun a' w' => ((ls.setIfInBounds i true).getD k true = false -> T w') /\ Till P md ops Q T k n (ls.setIfInBounds i true) a' w') a w
theorem Till.any : ∀ (n : Nat) (ls : Array Bool) (a : Act) (w : World), Till P md ops Q T k n ls a w -> wpAny P md ops Q n ls a w
 | 0, _, _, _, h => h
 | n + 1, _, _, _, h => ⟨h.1, fun i hi => wpOp_mono (fun a' w' h' => Till.any n _ a' w' h'.2) (h.2 i hi)⟩
def Closed (md : Region.Mode) (ops : Array Oper) (ls : Array Bool) : Prop :=
 ∀ (j : Nat) (oj : Oper), ops[j]? = some oj -> ls.getD j false = true -> ∀ e ∈ oj.after, Region.binds md e = true -> ls.getD e.on false = true
def closedB (md : Region.Mode) (ops : Array Oper) (ls : Array Bool) : Bool :=
 (List.range ops.size).all fun j => !(ls.getD j false) || match ops[j]? with
  | some oj => oj.after.all fun e => !(Region.binds md e) || ls.getD e.on false
  | none => true
theorem closed_of {ls : Array Bool} (h : closedB md ops ls = true) : Closed md ops ls := by
 intro j oj ho hl e he hb
 unfold closedB at h
 rw [List.all_eq_true] at h
 have hj : j < ops.size := by
  rcases Nat.lt_or_ge j ops.size with h | h
  ·exact h
  ·rw [Array.getElem?_eq_none h] at ho; cases ho
 have h1 := h j (List.mem_range.2 hj)
 rw [hl, ho] at h1
 simp only [Bool.not_true, Bool.false_or] at h1
 have h2 := Array.all_eq_true_iff_forall_mem.1 h1 e he
 rw [hb] at h2
 simpa using h2
theorem Closed.set {ls : Array Bool} (h : Closed md ops ls) {j : Nat} (hj : j ∈ Region.ready md ops ls) : Closed md ops (ls.setIfInBounds j true) := by
 intro m om ho hl e he hb
 by_cases hm : j = m
 ·subst hm
  obtain ⟨_, o', ho', hall⟩ := mem_ready.1 hj
  rw [ho] at ho'
  injection ho' with ho'
  subst ho'
  exact getD_set_true (hall e he hb)
 ·rw [getD_set_ne false hm] at hl
  exact getD_set_true (h m om ho hl e he hb)
def waitsBy (md : Region.Mode) (ops : Array Oper) : Nat -> List Nat -> Nat -> Bool
 | i, [], k => Region.waitsFor md ops k i
 | i, j :: l, k => Region.waitsFor md ops j i && waitsBy md ops j l k
theorem Closed.back {ls : Array Bool} (h : Closed md ops ls) : ∀ (l : List Nat) (i : Nat), waitsBy md ops i l k = true -> k ∈ Region.ready md ops ls -> ls.getD i false = true
 | [], i, hw, hk => by
  obtain ⟨oj, ho, e, he, hb, hon⟩ := Region.waitsFor_spec hw
  obtain ⟨_, o', ho', hall⟩ := mem_ready.1 hk
  rw [ho] at ho'
  injection ho' with ho'
  subst ho'
  exact hon ▸ hall e he hb
 | j :: l, i, hw, hk => by
  unfold waitsBy at hw
  rw [Bool.and_eq_true] at hw
  obtain ⟨oj, ho, e, he, hb, hon⟩ := Region.waitsFor_spec hw.1
  exact hon ▸ h j oj ho (h.back l j hw.2 hk) e he hb
theorem not_listed {i : Nat} {ls : Array Bool} (hi : i ∈ Region.ready md ops ls) (h1 : ls.getD i false = true) : False := by
 have h0 := (mem_ready.1 hi).1
 rcases Nat.lt_or_ge i ls.size with h | h
 ·simp [h] at h0 h1
  rw [h0] at h1
  cases h1
 ·simp [Array.getElem?_eq_none h] at h1
theorem Till.first {i : Nat} {oi : Oper} {v : Value} (hi : ops[i]? = some oi) (hsel : ∀ (j : Nat) (o : Oper) cs b, ops[j]? = some o -> o.op ≠ .select cs b)
  (hQ : ∀ c a w, Q (.panic c) (a.put oi.dst v) w -> Q (.panic c) a w) {l : List Nat} (hk : waitsBy md ops i l k = true) (hki : k ≠ i) :
  ∀ (n : Nat) (ls : Array Bool) (a : Act) (w : World),
   (∀ j oj, ops[j]? = some oj -> j ≠ i -> ls.getD j true = false -> (∀ e ∈ oj.after, Region.binds md e = true -> e.on ≠ i) -> oi.apart ops oj = true) ->
   i ∈ Region.ready md ops ls -> Closed md ops ls -> ls.getD k true = false -> YieldsIf P ops T oi v a -> T w ->
   Till P md ops Q T k n (ls.setIfInBounds i true) (a.put oi.dst v) w -> Till P md ops Q T k (n + 1) ls a w := by
 intro n
 induction n with
 | zero =>
  intro ls a w _ hr _ _ hy hT H
  refine ⟨fun h => (by rw [h] at hr; cases hr), fun j hj => ?_⟩
  by_cases hji : j = i
  ·subst hji
   exact hy.wpOp hi hT ⟨fun _ => hT, H⟩
  ·have h := ready_mono hj hji
   rw [H.1] at h
   cases h
 | succ n ih =>
  intro ls a w hfree hr hcl hkl hy hT H
  refine ⟨fun h => (by rw [h] at hr; cases hr), fun j hj => ?_⟩
  by_cases hji : j = i
  ·subst hji
   exact hy.wpOp hi hT ⟨fun _ => hT, H⟩
  ·have hjk : j ≠ k := fun e => not_listed hr (hcl.back l i hk (e ▸ hj))
   obtain ⟨hun, oj, ho, hall⟩ := mem_ready.1 hj
   have hno : ∀ e ∈ oj.after, Region.binds md e = true -> e.on ≠ i := fun e he hb hon =>
    not_listed hr (hon ▸ hall e he hb)
   have h2 := wpOp_putIf ho (hfree j oj ho hji hun hno) (fun cs b => hsel i oi cs b hi) (fun cs b => hsel j oj cs b ho) hQ hy (H.2 j (ready_mono hj hji))
   refine wpOp_mono (fun a' w' h3 => ?_) h2
   obtain ⟨hy', hT', hrest⟩ := h3
   have hTw : T w' := hT' (by rw [getD_set_ne true hjk, getD_set_ne true (Ne.symm hki)]; exact hkl)
   refine ⟨fun _ => hTw, ih _ a' w' ?_ (ready_mono hr (Ne.symm hji)) (hcl.set hj) (by rw [getD_set_ne true hjk]; exact hkl) hy' hTw ?_⟩
   ·intro m om hm hmi hmu hmn
    refine hfree m om hm hmi ?_ hmn
    by_cases hjm : j = m
    ·subst hjm; exact hun
    ·rwa [getD_set_ne true hjm] at hmu
   ·rw [Array.setIfInBounds_comm _ _ hji]
    exact hrest
theorem Till.take {i : Nat} {oi : Oper} {v : Value} {n : Nat} {ls : Array Bool} {a : Act} {w : World} (hi : ops[i]? = some oi)
  (hs : Region.noSelect ops = true) (hf : Region.free md ops ls i = true) (hr : (Region.ready md ops ls).contains i = true) (l : List Nat) (hk : waitsBy md ops i l k = true) (hki : k ≠ i) (hcl : closedB md ops ls = true) (hkl : ls.getD k true = false)
  (hQ : ∀ c a w, Q (.panic c) (a.put oi.dst v) w -> Q (.panic c) a w) (hT : T w) (hy : YieldsIf P ops T oi v a)
  (h : Till P md ops Q T k n (ls.setIfInBounds i true) (a.put oi.dst v) w) : Till P md ops Q T k (n + 1) ls a w :=
 Till.first hi (Region.noSelect_spec hs) hQ hk hki n ls a w (Region.free_spec hi hf) (by simpa using hr) (closed_of hcl) hkl hy hT h
theorem Till.a : type_of% @List.setIfInBounds_toArray := @List.setIfInBounds_toArray
theorem Till.b : type_of% @List.set_cons_zero := @List.set_cons_zero
theorem Till.c : type_of% @List.set_cons_succ := @List.set_cons_succ
theorem Till.tk {i : Nat} {oi : Oper} {v : Value} {n : Nat} {ls : Array Bool} {a : Act} {w : World} (hi : ops[i]? = some oi) (l : List Nat) (hT : T w) (hy : YieldsIf P ops T oi v a)
  (h : Till P md ops Q T k n (ls.setIfInBounds i true) (a.put oi.dst v) w) (hs : Region.noSelect ops = true := by kernel_rfl) (hf : Region.free md ops ls i = true := by kernel_rfl) (hr : (Region.ready md ops ls).contains i = true := by kernel_rfl) (hk : waitsBy md ops i l k = true := by kernel_rfl) (hki : k ≠ i := by decide) (hcl : closedB md ops ls = true := by kernel_rfl) (hkl : ls.getD k true = false := by kernel_rfl)
  (hQ : ∀ c a w, Q (.panic c) (a.put oi.dst v) w -> Q (.panic c) a w := by exact fun _ _ _ h => h) : Till P md ops Q T k (n + 1) ls a w :=
 Till.take hi hs hf hr l hk hki hcl hkl hQ hT hy h
theorem Till.step {i : Nat} {o : Oper} {n : Nat} {ls : Array Bool} {a : Act} {w : World} (hr : Region.ready md ops ls = [i]) (ho : ops[i]? = some o)
  (h : ∀ K' : Act -> World -> Prop, Hid (∀ a w, ((ls.setIfInBounds i true).getD k true = false -> T w) -> Till P md ops Q T k n (ls.setIfInBounds i true) a w -> K' a w) ->
   if Region.wanted o (yielded ops a.tmps) = true then Oper.wp P o a w K' Q else K' (a.put o.dst undef) w) : Till P md ops Q T k (n + 1) ls a w :=
 ⟨fun h0 => (by rw [hr] at h0; cases h0), fun j hj => by
  rw [hr] at hj
  obtain rfl := List.mem_singleton.1 hj
  exact wpOp_step ho fun K' hK => h K' fun a w h1 h2 => hK a w ⟨h1, h2⟩⟩
theorem Till.done {ls : Array Bool} {a : Act} {w : World} (hr : Region.ready md ops ls = []) (h : Q .normal a w) : ∀ n, Till P md ops Q T k n ls a w
 | 0 => ⟨hr, h⟩
 | _ + 1 => ⟨fun _ => h, by rw [hr]; intro i hi; cases hi⟩
theorem region_till {id : Nat} {a : Act} {w : World} (k : Nat) (T : World -> Prop) (hm : P.follows .mixedOrders = true)
  (h : Till P .any ops Q T k ops.size (Array.replicate ops.size false) a w.drew) : (Code.region id ops true).wp P Q a w :=
 wp_region_any hm (Till.any _ _ _ _ h)
end
end Go.Proofs.YthjlleifpnpfgaaGreatDoor
