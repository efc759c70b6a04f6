/- Plain facts on units: products that are cancelled, and the law of factors there and back. No program in sight. The walks of package whole: the leaves. The walks of package whole: compare, sum, less. -/
import Derived.Test.YtklblmbacnnoeaaGreatDoorF0
import Derived.Test.YtklblmbacnnoeaaGreatDoorProg
import Derived.Handy
import Derived.Deep.QuietTactic
import Derived.BigQuiet
import Derived.Deep.Draws
-- merged: U2 W1 W2

namespace Go.Proofs.YtklblmbacnnoeaaGreatDoor
open Go.RowKit
set_option linter.unusedVariables false
set_option linter.unusedSimpArgs false

def prodN (l : List Nat) : Nat := l.foldl (fun a b => a * b) 1
theorem prodN_from : ∀ (l : List Nat) (c : Nat), l.foldl (fun a b => a * b) c = c * prodN l
  | [], c => by simp [prodN]
  | x :: l, c => by
    unfold prodN
    rw [List.foldl_cons, List.foldl_cons, prodN_from l (c * x), prodN_from l (1 * x), Nat.one_mul, Nat.mul_assoc]
theorem prodN_cons (x : Nat) (l : List Nat) : prodN (x :: l) = x * prodN l := by
  have := prodN_from l (1 * x)
  unfold prodN at this ⊢
  rw [List.foldl_cons, this, Nat.one_mul]
theorem prodN_pos : ∀ {l : List Nat}, (∀ x ∈ l, 1 ≤ x) → 1 ≤ prodN l
  | [], _ => Nat.le_refl _
  | x :: l, h => by
    rw [prodN_cons]
    exact Nat.mul_le_mul (h x (by simp)) (prodN_pos fun y hy => h y (by simp [hy]))
theorem prodN_set : ∀ {l : List Nat} {i : Nat} (h : i < l.length) (x : Nat), prodN (l.set i x) * l[i] = prodN l * x
  | a :: l, 0, _, x => by
    rw [List.set_cons_zero, prodN_cons, prodN_cons, List.getElem_cons_zero, Nat.mul_right_comm, Nat.mul_comm x a, Nat.mul_right_comm]
  | a :: l, i + 1, h, x => by
    have := prodN_set (l := l) (i := i) (by simpa using h) x
    rw [List.set_cons_succ, prodN_cons, prodN_cons, List.getElem_cons_succ, Nat.mul_assoc, this, Nat.mul_assoc]
theorem coprime_prod {x : Nat} : ∀ {m : List Nat}, (∀ y ∈ m, Nat.Coprime x y) → Nat.Coprime x (prodN m)
  | [], _ => Nat.coprime_one_right x
  | y :: m, h => by
    rw [prodN_cons]
    exact Nat.Coprime.mul_right (h y (by simp)) (coprime_prod fun z hz => h z (by simp [hz]))
theorem coprime_prods : ∀ {l m : List Nat}, (∀ x ∈ l, ∀ y ∈ m, Nat.Coprime x y) → Nat.Coprime (prodN l) (prodN m)
  | [], m, _ => Nat.coprime_one_left (prodN m)
  | x :: l, m, h => by
    rw [prodN_cons]
    exact Nat.Coprime.mul_left (coprime_prod (h x (by simp))) (coprime_prods fun z hz => h z (by simp [hz]))

/-- A number over another one in lowest terms: both, and the fault if one is too large. -/
def lowest (P Q : Nat) : Int × Int × Int :=
  if P / Nat.gcd P Q ≤ 1000000000000000 ∧ Q / Nat.gcd P Q ≤ 1000000000000000 then (((P / Nat.gcd P Q : Nat) : Int), ((Q / Nat.gcd P Q : Nat) : Int), 0) else (0, 0, 1)
theorem lowest_of {A B P Q : Nat} (hA : 0 < A) (hc : Nat.Coprime A B) (h : A * Q = P * B) (hQ : 0 < Q) (hB : 0 < B) : P / Nat.gcd P Q = A ∧ Q / Nat.gcd P Q = B := by
  have h1 : A ∣ P := hc.dvd_of_dvd_mul_right (h ▸ Nat.dvd_mul_right A Q)
  obtain ⟨c, rfl⟩ := h1
  have h2 : Q = B * c := by
    rw [Nat.mul_assoc] at h
    have := Nat.eq_of_mul_eq_mul_left hA h
    rw [this, Nat.mul_comm]
  subst h2
  have hcp : 0 < c := Nat.pos_of_mul_pos_left hQ
  have e : Nat.gcd (A * c) (B * c) = c := by rw [Nat.gcd_mul_right, hc, Nat.one_mul]
  rw [e, Nat.mul_div_cancel _ hcp, Nat.mul_div_cancel _ hcp]
  exact ⟨rfl, rfl⟩

/-- Two rows of factors, cancelled up to a place. -/
def gA (l : List Nat) (j : Nat) : Nat := l.getD j 1
structure Canc (N0 D0 N D : List Nat) (i k : Nat) : Prop where
  ln : N.length = N0.length
  ld : D.length = D0.length
  bn : ∀ x ∈ N, 1 ≤ x ∧ x ≤ 1000000
  bd : ∀ x ∈ D, 1 ≤ x ∧ x ≤ 1000000
  eq : prodN N * prodN D0 = prodN N0 * prodN D
  c1 : ∀ a, a < i → ∀ b, b < D.length → Nat.Coprime (gA N a) (gA D b)
  c2 : ∀ b, b < k → Nat.Coprime (gA N i) (gA D b)
theorem gA_get {l : List Nat} {j : Nat} (h : j < l.length) : l[j] = gA l j := by
  unfold gA; rw [List.getD_eq_getElem?_getD, List.getElem?_eq_getElem h]; rfl
theorem gA_set {l : List Nat} {i j x : Nat} (h : i < l.length) : gA (l.set i x) j = if i = j then x else gA l j := by
  unfold gA
  rw [List.getD_eq_getElem?_getD, List.getD_eq_getElem?_getD, List.getElem?_set]
  by_cases e : i = j
  · subst e; simp [h]
  · simp [e]
theorem mem_gA {l : List Nat} {j : Nat} (h : j < l.length) : gA l j ∈ l := by rw [← gA_get h]; exact List.getElem_mem h
theorem Canc.row {N0 D0 N D : List Nat} {i k : Nat} (h : Canc N0 D0 N D i k) (hk : k = D0.length) : Canc N0 D0 N D (i + 1) 0 :=
  ⟨h.ln, h.ld, h.bn, h.bd, h.eq, fun a ha b hb => by
    rcases Nat.lt_or_ge a i with g | g
    · exact h.c1 a g b hb
    · rw [show a = i by omega]; exact h.c2 b (by rw [hk, ← h.ld]; exact hb), fun b h => by omega⟩
theorem Canc.step {N0 D0 N D : List Nat} {i k : Nat} (h : Canc N0 D0 N D i k) (hi : i < N0.length) (hk : k < D0.length) :
    Canc N0 D0 (N.set i (gA N i / Nat.gcd (gA N i) (gA D k))) (D.set k (gA D k / Nat.gcd (gA N i) (gA D k))) i (k + 1) := by
  have hi' : i < N.length := by rw [h.ln]; exact hi
  have hk' : k < D.length := by rw [h.ld]; exact hk
  have b1 := h.bn _ (mem_gA hi')
  have b2 := h.bd _ (mem_gA hk')
  have e1 := prodN_set hi' (gA N i / Nat.gcd (gA N i) (gA D k))
  have e2 := prodN_set hk' (gA D k / Nat.gcd (gA N i) (gA D k))
  rw [gA_get] at e1 e2
  have d1 : Nat.gcd (gA N i) (gA D k) ∣ gA N i := Nat.gcd_dvd_left _ _
  have d2 : Nat.gcd (gA N i) (gA D k) ∣ gA D k := Nat.gcd_dvd_right _ _
  have g0 : 0 < Nat.gcd (gA N i) (gA D k) := Nat.gcd_pos_of_pos_left _ (by omega)
  have hcop : Nat.Coprime (gA N i / Nat.gcd (gA N i) (gA D k)) (gA D k / Nat.gcd (gA N i) (gA D k)) := Nat.coprime_div_gcd_div_gcd g0
  generalize hx : gA N i / Nat.gcd (gA N i) (gA D k) = x at *
  generalize hy : gA D k / Nat.gcd (gA N i) (gA D k) = y at *
  have m1 : gA N i = x * Nat.gcd (gA N i) (gA D k) := by rw [← hx, Nat.div_mul_cancel d1]
  have m2 : gA D k = y * Nat.gcd (gA N i) (gA D k) := by rw [← hy, Nat.div_mul_cancel d2]
  generalize hg : Nat.gcd (gA N i) (gA D k) = g at *
  have x0 : 0 < x := by rcases Nat.eq_zero_or_pos x with z | z; (rw [z] at m1; omega); exact z
  have y0 : 0 < y := by rcases Nat.eq_zero_or_pos y with z | z; (rw [z] at m2; omega); exact z
  have xle : x ≤ gA N i := by rw [m1]; exact Nat.le_mul_of_pos_right _ g0
  have yle : y ≤ gA D k := by rw [m2]; exact Nat.le_mul_of_pos_right _ g0
  have p1 : prodN N = prodN (N.set i x) * g := by
    apply Nat.eq_of_mul_eq_mul_right x0
    rw [← e1, Nat.mul_assoc, Nat.mul_comm g x, ← m1]
  have p2 : prodN D = prodN (D.set k y) * g := by
    apply Nat.eq_of_mul_eq_mul_right y0
    rw [← e2, Nat.mul_assoc, Nat.mul_comm g y, ← m2]
  have he := h.eq
  refine ⟨by simp [h.ln], by simp [h.ld], ?_, ?_, ?_, ?_, ?_⟩
  · intro z hz
    rcases List.mem_or_eq_of_mem_set hz with g | g
    · exact h.bn z g
    · subst g; omega
  · intro z hz
    rcases List.mem_or_eq_of_mem_set hz with g | g
    · exact h.bd z g
    · subst g; omega
  · rw [p1, p2] at he
    apply Nat.eq_of_mul_eq_mul_right g0
    rw [Nat.mul_right_comm, he, Nat.mul_assoc]
  · intro a ha b hb
    rw [gA_set hi', if_neg (by omega), gA_set hk']
    have hb' : b < D.length := by simpa using hb
    split
    · next e =>
      subst e
      exact Nat.Coprime.coprime_dvd_right ⟨g, m2⟩ (h.c1 a ha k hk')
    · exact h.c1 a ha b hb'
  · intro b hb
    rw [gA_set hi', if_pos rfl, gA_set hk']
    split
    · next e =>
      exact hcop
    · exact Nat.Coprime.coprime_dvd_left ⟨g, m1⟩ (h.c2 b (by omega))
theorem Canc.done {N0 D0 N D : List Nat} {i : Nat} (h : Canc N0 D0 N D i 0) (hi : i = N0.length) (h0 : ∀ x ∈ D0, 1 ≤ x) :
    prodN N0 / Nat.gcd (prodN N0) (prodN D0) = prodN N ∧ prodN D0 / Nat.gcd (prodN N0) (prodN D0) = prodN D := by
  refine lowest_of (prodN_pos fun x hx => (h.bn x hx).1) (coprime_prods ?_) h.eq (prodN_pos h0) (prodN_pos fun x hx => (h.bd x hx).1)
  intro x hx y hy
  obtain ⟨a, ha, rfl⟩ := List.getElem_of_mem hx
  obtain ⟨b, hb, rfl⟩ := List.getElem_of_mem hy
  rw [gA_get, gA_get]
  exact h.c1 a (by rw [hi, ← h.ln]; exact ha) b hb

/-! ### Factors -/
end Go.Proofs.YtklblmbacnnoeaaGreatDoor

namespace Go.Proofs.YtklblmbacnnoeaaGreatDoor
open Go.RowKit Limb

def slen : Value → Nat | .slice _ n _ => n | _ => 0

theorem trim_take_pos {l : List Nat} {k : Nat} (hk : k < l.length) (h : dg l k ≠ 0) : trim (l.take (k + 1)) = l.take (k + 1) := by
  rw [List.take_succ_eq_append_getElem hk]
  apply trim_snoc_pos
  have := dg_get hk
  rw [List.getElem?_eq_getElem hk] at this
  injection this with this
  rw [this]; exact h
theorem trim_take_zero {l : List Nat} {k : Nat} (hk : k < l.length) (h : dg l k = 0) : trim (l.take (k + 1)) = trim (l.take k) := by
  rw [List.take_succ_eq_append_getElem hk]
  have := dg_get hk
  rw [List.getElem?_eq_getElem hk] at this
  injection this with this
  rw [this, h]
  exact trim_snoc_zero _

set_option maxHeartbeats 400000 in
theorem trimmed_c (l : List Nat) (A : Option Addr) (n c : Nat) (w : World) (hd : Dig w .u32 161 A n l) (hc : n ≤ c) (hm : c ≤ maxLen) :
    Calls Tryz.prog 180 #[.slice A n c] w fun e w' => w = w' ∧ ∃ k, k ≤ n ∧ trim l = l.take k ∧ e = .returned (.slice A k c) := by
  unfold maxLen at hm
  go_enter Tryz.func180, Tryz.ntmps180
  go_wp2
  go_loop [0] (fun v => ∃ k, k ≤ n ∧ v = .slice A k c ∧ trim (l.take k) = trim l) (fun v => slen v)
  case atStart => exact ⟨n, Nat.le_refl _, rfl, by rw [List.take_of_length_le (by rw [hd.1]; exact Nat.le_refl _)]⟩
  case round =>
    obtain ⟨k, hk, rfl, ht⟩ := hrel
    have HT := Lib.hid ht; clear ht
    rcases k with _ | k
    · go_wp2
      go_ret
      exact ⟨rfl, 0, Nat.zero_le _, by rw [← HT.out, List.take_zero]; rfl, rfl⟩
    · obtain ⟨g, rfl, hg, hcell⟩ := hd.at_ (by omega)
      have hx := hcell k (by omega)
      clear hcell
      have hl := hd.1
      by_cases h0 : dg l k = 0
      · go_wp2
        go_round
        case rel => exact ⟨k, by omega, rfl, by rw [← HT.out, trim_take_zero (by omega) h0]⟩
        case measure => simp [slen]
      · go_wp2
        go_ret
        exact ⟨rfl, k + 1, by omega, by rw [← HT.out, trim_take_pos (by omega) h0], rfl⟩

/-- What 'made' makes. -/
theorem big_of_trim {K : IntKind} {E : TypeId} {b : Nat} {w : World} {A : Option Addr} {n c k : Nat} {l : List Nat} {neg : Bool} (hd : Dig w K E A n l) (hg : Digs b l) (hc : n ≤ c) (hm : c ≤ maxLen) (hk : k ≤ n) (ht : trim l = l.take k) :
    Big K E b w (neg && decide (0 < k)) A k c (sg neg (val b l)) := by
  refine ⟨trim l, by rw [ht]; exact hd.take hk, by omega, hm, digs_trim hg, norm_trim l, ?_, ?_⟩
  · intro h e
    simp at h
    have := congrArg List.length ht
    rw [e, List.length_take, hd.1] at this
    simp at this
    omega
  · rw [val_trim]
    rcases Nat.eq_zero_or_pos k with h0 | h0
    · subst h0
      rw [List.take_zero] at ht
      have : val b l = 0 := by rw [← val_trim, ht]; rfl
      rw [this]
      cases neg <;> simp [sg]
    · simp [h0]

set_option maxHeartbeats 400000 in
theorem made_c (l : List Nat) (neg : Bool) (A : Option Addr) (n c : Nat) (w : World) (hd : Dig w .u32 161 A n l) (hc : n ≤ c) (hm : c ≤ maxLen) (hg : Digs B32 l) :
    Calls Tryz.prog 128 #[.bool neg, .slice A n c] w (Makes .u32 161 B32 w (sg neg (val B32 l))) := by
  go_enter Tryz.func128, Tryz.ntmps128
  go_wp2_with fail
  refine (trimmed_c l A n c _ (hd.alloc _) hc hm).mono ?_
  rintro e w' ⟨rfl, k, hk, ht, rfl⟩
  have HT := Lib.hid ht; clear ht
  have hk0 : neg = true ∨ neg = false := by cases neg <;> simp
  rcases hk0 with rfl | rfl
  · go_wp2
    go_returns
    refine ⟨_, _, _, _, rfl, ?_, ?_⟩
    · exact big_of_trim (neg := true) (hd.alloc _) hg hc hm hk HT.out
    · go_grown
  · go_wp2
    go_returns
    refine ⟨_, _, _, _, rfl, ?_, ?_⟩
    · exact big_of_trim (neg := false) (hd.alloc _) hg hc hm hk HT.out
    · go_grown

set_option maxHeartbeats 400000 in
theorem of_c (n : Int) (w : World) (h1 : -9223372036854775808 ≤ n) (h2 : n ≤ 9223372036854775807) :
    Calls Tryz.prog 72 #[.int .i64 n] w (Makes .u32 161 B32 w n) := by
  by_cases hn : n < 0
  · obtain ⟨m, hm⟩ : ∃ m : Nat, n = -(m : Int) := ⟨n.natAbs, by omega⟩
    have hu : IntKind.u64.wrap (-IntKind.u64.wrap n) = (m : Int) := by simp only [IntKind.wrap, IntKind.bits, IntKind.signed]; simp; omega
    have HM := Lib.hid hm; have HU := Lib.hid hu; clear hm hu
    go_enter Tryz.func72, Tryz.ntmps72
    go_wp2_with fail
    rw [HU.out]
    refine (made_c [m % B32, m / B32] true _ 2 2 _ (dig_two _ _ (by simp) (limb0 m) (limb1 (by have := HM.out; omega))) (Nat.le_refl _) (by unfold maxLen; omega) (digs_limbs (by have := HM.out; omega))).mono ?_
    rintro e w1 ⟨s1, A1, n1, c1, rfl, hv, hb⟩
    rw [val_limbs] at hv
    have hB : w1.heap[w.heap.size]? = some (.cells #[.bool false, .slice none 0 0] 112 (0, 0)) := heap_below (heap_old (heap_new w _ rfl) _) hb
    obtain ⟨hc0, hc1, hf0, hf1, hz⟩ := box2 hB
    go_wp2
    refine bodyPost_ret (v := .agg #[.bool s1, .slice A1 n1 c1]) (by simp [results, Tryz.results72, go_sem, hc0, hc1]) rfl ⟨s1, A1, n1, c1, rfl, ?_, ?_⟩
    · have e : sg true m = n := by simp [sg]; exact HM.out.symm
      rw [e] at hv
      exact hv.box2 hB (by decide) _ _
    · go_grown
      exact below_then hb (by go_grown) (by simp only [World.size_alloc]; omega)
  · obtain ⟨m, rfl⟩ := Int.eq_ofNat_of_zero_le (by omega : 0 ≤ n)
    go_enter Tryz.func72, Tryz.ntmps72
    go_wp2_with fail
    refine (made_c [m % B32, m / B32] false _ 2 2 _ (dig_two _ _ (by simp) (limb0 m) (limb1' m)) (Nat.le_refl _) (by unfold maxLen; omega) (digs_limbs (by omega))).mono ?_
    rintro e w1 ⟨s1, A1, n1, c1, rfl, hv, hb⟩
    rw [val_limbs] at hv
    have hB : w1.heap[w.heap.size]? = some (.cells #[.bool false, .slice none 0 0] 112 (0, 0)) := heap_below (heap_old (heap_new w _ rfl) _) hb
    obtain ⟨hc0, hc1, hf0, hf1, hz⟩ := box2 hB
    go_wp2
    refine bodyPost_ret (v := .agg #[.bool s1, .slice A1 n1 c1]) (by simp [results, Tryz.results72, go_sem, hc0, hc1]) rfl ⟨s1, A1, n1, c1, rfl, ?_, ?_⟩
    · exact hv.box2 hB (by decide) _ _
    · go_grown
      exact below_then hb (by go_grown) (by simp only [World.size_alloc]; omega)

end Go.Proofs.YtklblmbacnnoeaaGreatDoor

namespace Go.Proofs.YtklblmbacnnoeaaGreatDoor
open Go.RowKit Limb

/-- What compare's number says. -/
def Cmp (r : Int) (x y : Nat) : Prop := (r < 0 ↔ x < y) ∧ (0 < r ↔ y < x) ∧ -9223372036854775807 ≤ r ∧ r ≤ 9223372036854775807
theorem Cmp.lt {x y : Nat} (h : x < y) : Cmp (-1) x y := by unfold Cmp; omega
theorem Cmp.gt {x y : Nat} (h : y < x) : Cmp 1 x y := by unfold Cmp; omega
theorem Cmp.eq {x y : Nat} (h : x = y) : Cmp 0 x y := by unfold Cmp; omega
def CmpEnd (w : World) (x y : Nat) (e : Ending) (w' : World) : Prop := ∃ r : Int, e = .returned (.int .i64 r) ∧ Cmp r x y ∧ ∃ q, w' = w.drewN q

theorem dN3 (w : World) (a b c : Nat) : ((w.drewN a).drewN b).drewN c = w.drewN (a + b + c) := by simp [World.drewN_drewN]

theorem cmp_len {b : Nat} (hb : 1 < b) {l m : List Nat} (hl : Digs b l) (hm : Digs b m) (nl : Norm l) (nm : Norm m) (h : l.length ≠ m.length) (h1 : l.length ≤ maxLen) (h2 : m.length ≤ maxLen) : Cmp ((l.length : Int) - m.length) (val b l) (val b m) := by
  unfold maxLen at h1 h2
  unfold Cmp
  rcases Nat.lt_or_ge l.length m.length with k | k
  · have := val_lt_of_len hb hl nm k; omega
  · have := val_lt_of_len hb hm nl (by omega : m.length < l.length); omega

set_option maxHeartbeats 1000000 in
theorem compare_c (l m : List Nat) (A B : Option Addr) (n c k d : Nat) (w : World) (hd : Dig w .u32 161 A n l) (hc : n ≤ c) (hm : c ≤ maxLen) (he : Dig w .u32 161 B k m) (hk : k ≤ d) (hm2 : d ≤ maxLen)
    (gl : Digs B32 l) (gm : Digs B32 m) (nl : Norm l) (nm : Norm m) :
    Calls Tryz.prog 133 #[.slice A n c, .slice B k d] w (CmpEnd w (val B32 l) (val B32 m)) := by
  have hll := hd.1
  have hml := he.1
  by_cases hne : n = k
  · subst hne
    have hne : ((n : Int) != (n : Int)) = false := by simp
    have hm' : n ≤ 9223372036854775807 := by unfold maxLen at hm; omega
    go_enter Tryz.func133, Tryz.ntmps133
    go_wp2
    go_loopw [5] (fun v wr => ∃ j : Nat, j ≤ n ∧ v = .int .i64 ((j : Int) - 1) ∧ l.drop j = m.drop j ∧ ∃ q, wr = w.drewN q) (fun v _ => (intOf v + 1).toNat)
    case atStart => exact ⟨n, Nat.le_refl _, rfl, by rw [List.drop_of_length_le (by omega), List.drop_of_length_le (by omega)], 0, rfl⟩
    case round =>
      obtain ⟨j, hj, rfl, hdr, q, rfl⟩ := hrel
      have HD := Lib.hid hdr; clear hdr
      rcases j with _ | j
      · go_wp2
        go_ret
        exact ⟨0, rfl, Cmp.eq (by have := HD.out; simp at this; rw [this]), q, rfl⟩
      · have e : ((j + 1 : Nat) : Int) - 1 = (j : Int) := by omega
        rw [e]
        obtain ⟨g, rfl, _, hc1⟩ := hd.at_ (by omega)
        obtain ⟨g', rfl, _, hc2⟩ := he.at_ (by omega)
        have hx := hc1 j (by omega)
        have hy := hc2 j (by omega)
        clear hc1 hc2
        have hlt : (j : Int) < (n : Int) := by omega
        have h0 : (0 : Int) ≤ (j : Int) := by omega
        by_cases hq : dg l j = dg m j
        · have hq' : (((dg l j : Nat) : Int) != ((dg m j : Nat) : Int)) = false := by simp [hq]
          have HQ := Lib.hid hq; clear hq
          go_wp2_with fail
          go_quiet (fail)
          go_wp2
          go_roundw
          case rel => exact ⟨j, by omega, rfl, drop_eq_step (by omega) (by omega) HD.out HQ.out, _, rfl⟩
          case measure => simp [intOf]
        · have hq' : (((dg l j : Nat) : Int) != ((dg m j : Nat) : Int)) = true := by simp; omega
          by_cases hq2 : dg l j < dg m j
          · have hq3 : (((dg l j : Nat) : Int) < ((dg m j : Nat) : Int)) := by omega
            go_wp2_with fail
            go_quiet (fail)
            go_wp2_with fail
            go_quiet (fail)
            go_wp2
            go_ret
            exact ⟨-1, rfl, Cmp.lt (val_lt_of_digit gl (by omega) (by omega) HD.out hq2), _, dN3 _ _ _ _⟩
          · have hq3 : ¬ (((dg l j : Nat) : Int) < ((dg m j : Nat) : Int)) := by omega
            go_wp2_with fail
            go_quiet (fail)
            go_wp2_with fail
            go_quiet (fail)
            go_wp2
            go_ret
            exact ⟨1, rfl, Cmp.gt (val_lt_of_digit gm (by omega) (by omega) HD.out.symm (by unfold dg at *; omega)), _, dN3 _ _ _ _⟩
  · have hne' : ((n : Int) != (k : Int)) = true := by simp; omega
    have H := Lib.hid (cmp_len (b := B32) (by decide) gl gm nl nm (by omega) (by omega) (by omega))
    have hm' : n ≤ 9223372036854775807 := by unfold maxLen at hm; omega
    have hm2' : k ≤ 9223372036854775807 := by unfold maxLen at hm2; omega
    subst hll hml
    go_enter Tryz.func133, Tryz.ntmps133
    go_wp2
    go_ret
    exact ⟨_, rfl, H.out, 0, rfl⟩

theorem Tryz.info161 : (Tryz.prog.info? 161).map (fun i => (i.zero, i.size, i.bytes)) = some (some (.int .u32 0), 1, 4) := by kernel_rfl

/-- What sum, less, trimmed leave: digits in a row of the call's own. -/
def Row (E : TypeId) (B : Nat) (w : World) (v : Value) (os : List Nat) : Prop := w.ownsRow B E 1 v os.length (digV .u32 os)

theorem u32_cell {w : World} {E : TypeId} (x : Int) (g : Nat) (hg : g = w.heap.size) : ∀ j u, [Value.int .u32 x][j]? = some u → (w.alloc (.cells #[.int .u32 x] E)).cell? ((⟨g, 0, none⟩ : Addr).add j) = some u := by
  subst hg
  intro j u hj
  match j, hj with
  | 0, hj => simp at hj; subst hj; simp [Addr.add]

theorem row_cast {w : World} {B : Nat} {E : TypeId} {v : Value} {n : Nat} {os : List Nat} {X : Int} {x : Nat} (h : w.ownsRow B E 1 v n (digV .u32 os ++ [.int .u32 X])) (hx : X = (x : Int)) : w.ownsRow B E 1 v n (digV .u32 (os ++ [x])) := by
  subst hx; rw [digV_snoc]; exact h

theorem sum_rel {l m os : List Nat} {j cy p q : Nat} (hos : os.length = j) (hval : val B32 os + B32 ^ j * cy = val B32 (l.take j) + val B32 (m.take j)) (hp : p = dg l j) (hq : q = dg m j) (gos : Digs B32 os) (hcy : cy ≤ 1) (b1 : p < 4294967296) (b2 : q < 4294967296) :
    (os ++ [(cy + p + q) % B32]).length = j + 1 ∧ Digs B32 (os ++ [(cy + p + q) % B32]) ∧ (cy + p + q) / B32 ≤ 1 ∧ val B32 (os ++ [(cy + p + q) % B32]) + B32 ^ (j + 1) * ((cy + p + q) / B32) = val B32 (l.take (j + 1)) + val B32 (m.take (j + 1)) := by
  subst hos
  refine ⟨by simp, gos.snoc (Nat.mod_lt _ (by decide)), carry_le hcy b1 b2, ?_⟩
  rw [sum_step hval, val_take_succ, val_take_succ, hp, hq]
  rfl

set_option maxHeartbeats 1000000 in
set_option maxRecDepth 100000 in
theorem sum_long (l m : List Nat) (A B : Option Addr) (n c k d : Nat) (w : World) (hd : Dig w .u32 161 A n l) (he : Dig w .u32 161 B k m)
    (gl : Digs B32 l) (gm : Digs B32 m) (hn : n ≤ 1000) (hkn : k ≤ n) :
    Calls Tryz.prog 132 #[.slice A n c, .slice B k d] w fun e w' => ∃ v os, e = .returned v ∧ Row 161 w.heap.size w' v os ∧ os.length = n + 1 ∧ Digs B32 os ∧ val B32 os = val B32 l + val B32 m ∧ Below w.heap.size w w' := by
  have hll := hd.1
  have hml := he.1
  obtain ⟨i0, hi, hz0, hz1, hz2⟩ := info_parts Tryz.info161
  have hnk : ¬ n < k := by omega
  go_enter Tryz.func132, Tryz.ntmps132
  go_wp2_with (first
      | (at_make; refine wpList_make_own _ rfl _ _ 110 rfl w.heap.size 161 i0 (.int .u32 0) 1 Tryz.underlying110 hi hz0 hz1 .i64 .i64 _ (n + 1) rfl rfl (by omega) (by rw [hz2]; omega) (by unfold maxLen; omega) (Nat.le_refl _) ?_; intro w1 hown1 hg1))
  have hg0 : Below w.heap.size w w1 := (Below.refl _ _).grown hg1 (Nat.le_refl _) (fun _ h => by cases h)
  go_loopw [6, 5, 22] (fun cv v i wr => ∃ (j cy : Nat) (os : List Nat), j ≤ n ∧ i = .int .i64 j ∧ cv = .int .u64 cy ∧ os.length = j ∧ v = .slice (some ⟨w.heap.size, 0, none⟩) j (n + 1) ∧
      wr.ownsRow w.heap.size 161 1 (.slice (some ⟨w.heap.size, 0, none⟩) j (n + 1)) j (digV .u32 os) ∧ Digs B32 os ∧ cy ≤ 1 ∧ val B32 os + B32 ^ j * cy = val B32 (l.take j) + val B32 (m.take j) ∧ Below w.heap.size w wr)
    (fun _ _ i _ => n - (intOf i).toNat)
  case atStart => exact ⟨0, 0, [], Nat.zero_le _, rfl, rfl, rfl, rfl, hown1, Digs.nil _, by omega, by simp [val], hg0⟩
  case round =>
    obtain ⟨j, cy, os, hj, rfl, rfl, hos, rfl, hown, gos, hcy, hval, hbel⟩ := hrel
    have HV := Lib.hid hval; have HO := Lib.hid hos; clear hval hos
    have hcap := (own_cap hown1).2
    rcases Nat.lt_or_ge j n with hjn | hjn
    · obtain ⟨g, rfl, hg, hc1⟩ := hd.at_ (by omega)
      have hx := (hbel.cell (p := ⟨g, j, none⟩) hg).trans (hc1 j hjn)
      have b1 : dg l j < 4294967296 := dg_lt gl (by decide) j
      have b2 : dg m j < 4294967296 := dg_lt gm (by decide) j
      have hwr := hbel.size
      clear hc1
      rcases Nat.lt_or_ge j k with hjk | hjk
      · obtain ⟨g', rfl, hg', hc2⟩ := he.at_ (by omega)
        have hy := (hbel.cell (p := ⟨g', j, none⟩) hg').trans (hc2 j hjk)
        clear hc2
        go_wp2_with (first
          | (at_builtin; refine wpList_append_fits _ rfl _ _ 110 rfl w.heap.size 161 i0 1 Tryz.underlying110 hi hz1 w.heap.size j (n + 1) (digV .u32 os) rfl (hown.alloc _) ⟨wr.heap.size, 0, none⟩ 1 1 [.int .u32 (((cy : Int) + (dg l j : Nat) + (dg m j : Nat)) % 4294967296)] rfl rfl ?c1 ?c2 ?c3 ?_))
        case c1 => exact u32_cell _ _ rfl
        case c2 => intro u hu; simp at hu; subst hu; rfl
        case c3 => omega
        intro w2 hown2 hg2
        go_wp2
        go_roundw
        case rel =>
          obtain ⟨r1, r2, r3, r4⟩ := sum_rel HO.out HV.out rfl rfl gos hcy b1 b2
          exact ⟨j + 1, (cy + dg l j + dg m j) / B32, os ++ [(cy + dg l j + dg m j) % B32], by omega, by go_num, congrArg _ (by unfold B32; omega), r1, rfl,
            row_cast hown2 (by unfold B32; omega), r2, r3, r4, (hbel.alloc hwr _).grown hg2 (by simp; omega) (by intro g h; injection h with h; omega)⟩
        case measure => simp [intOf]; omega
      · go_wp2_with (first
          | (at_builtin; refine wpList_append_fits _ rfl _ _ 110 rfl w.heap.size 161 i0 1 Tryz.underlying110 hi hz1 w.heap.size j (n + 1) (digV .u32 os) rfl (hown.alloc _) ⟨wr.heap.size, 0, none⟩ 1 1 [.int .u32 (((cy : Int) + (dg l j : Nat)) % 4294967296)] rfl rfl ?c1 ?c2 ?c3 ?_))
        case c1 => exact u32_cell _ _ rfl
        case c2 => intro u hu; simp at hu; subst hu; rfl
        case c3 => omega
        intro w2 hown2 hg2
        go_wp2
        go_roundw
        case rel =>
          obtain ⟨r1, r2, r3, r4⟩ := sum_rel (q := 0) HO.out HV.out rfl (dg_out (by omega)).symm gos hcy b1 (by omega)
          exact ⟨j + 1, (cy + dg l j + 0) / B32, os ++ [(cy + dg l j + 0) % B32], by omega, by go_num, congrArg _ (by unfold B32; omega), r1, rfl,
            row_cast hown2 (by unfold B32; omega), r2, r3, r4, (hbel.alloc hwr _).grown hg2 (by simp; omega) (by intro g h; injection h with h; omega)⟩
        case measure => simp [intOf]; omega
    · obtain rfl : j = n := by omega
      have hwr := hbel.size
      go_wp2_with (first
          | (at_builtin; refine wpList_append_fits _ rfl _ _ 110 rfl w.heap.size 161 i0 1 Tryz.underlying110 hi hz1 w.heap.size j (j + 1) (digV .u32 os) rfl (hown.alloc _) ⟨wr.heap.size, 0, none⟩ 1 1 [.int .u32 (cy : Int)] rfl rfl ?c1 ?c2 ?c3 ?_))
      case c1 => exact u32_cell _ _ rfl
      case c2 => intro u hu; simp at hu; subst hu; rfl
      case c3 => omega
      intro w2 hown2 hg2
      go_wp2
      go_ret
      have e1 : (os ++ [cy]).length = j + 1 := by simp [HO.out]
      refine ⟨_, os ++ [cy], rfl, by unfold Row; rw [e1]; exact row_cast hown2 rfl, e1, gos.snoc (by unfold B32; omega), ?_, (hbel.alloc hwr _).grown hg2 (by simp; omega) (by intro g h; injection h with h; omega)⟩
      have hv := HV.out
      rw [val_snoc, HO.out, hv, List.take_of_length_le (by omega), List.take_of_length_le (by omega)]

set_option maxHeartbeats 1000000 in
set_option maxRecDepth 100000 in
theorem sum_short (l m : List Nat) (A B : Option Addr) (n c k d : Nat) (w : World) (hd : Dig w .u32 161 A n l) (he : Dig w .u32 161 B k m)
    (gl : Digs B32 l) (gm : Digs B32 m) (hn : n ≤ 1000) (hkn : k < n) :
    Calls Tryz.prog 132 #[.slice B k d, .slice A n c] w fun e w' => ∃ v os, e = .returned v ∧ Row 161 w.heap.size w' v os ∧ os.length = n + 1 ∧ Digs B32 os ∧ val B32 os = val B32 l + val B32 m ∧ Below w.heap.size w w' := by
  have hll := hd.1
  have hml := he.1
  obtain ⟨i0, hi, hz0, hz1, hz2⟩ := info_parts Tryz.info161
  go_enter Tryz.func132, Tryz.ntmps132
  go_wp2_with (first
      | (at_make; refine wpList_make_own _ rfl _ _ 110 rfl w.heap.size 161 i0 (.int .u32 0) 1 Tryz.underlying110 hi hz0 hz1 .i64 .i64 _ (n + 1) rfl rfl (by omega) (by rw [hz2]; omega) (by unfold maxLen; omega) (Nat.le_refl _) ?_; intro w1 hown1 hg1))
  have hg0 : Below w.heap.size w w1 := (Below.refl _ _).grown hg1 (Nat.le_refl _) (fun _ h => by cases h)
  go_loopw [6, 5, 22] (fun cv v i wr => ∃ (j cy : Nat) (os : List Nat), j ≤ n ∧ i = .int .i64 j ∧ cv = .int .u64 cy ∧ os.length = j ∧ v = .slice (some ⟨w.heap.size, 0, none⟩) j (n + 1) ∧
      wr.ownsRow w.heap.size 161 1 (.slice (some ⟨w.heap.size, 0, none⟩) j (n + 1)) j (digV .u32 os) ∧ Digs B32 os ∧ cy ≤ 1 ∧ val B32 os + B32 ^ j * cy = val B32 (l.take j) + val B32 (m.take j) ∧ Below w.heap.size w wr)
    (fun _ _ i _ => n - (intOf i).toNat)
  case atStart => exact ⟨0, 0, [], Nat.zero_le _, rfl, rfl, rfl, rfl, hown1, Digs.nil _, by omega, by simp [val], hg0⟩
  case round =>
    obtain ⟨j, cy, os, hj, rfl, rfl, hos, rfl, hown, gos, hcy, hval, hbel⟩ := hrel
    have HV := Lib.hid hval; have HO := Lib.hid hos; clear hval hos
    have hcap := (own_cap hown1).2
    rcases Nat.lt_or_ge j n with hjn | hjn
    · obtain ⟨g, rfl, hg, hc1⟩ := hd.at_ (by omega)
      have hx := (hbel.cell (p := ⟨g, j, none⟩) hg).trans (hc1 j hjn)
      have b1 : dg l j < 4294967296 := dg_lt gl (by decide) j
      have b2 : dg m j < 4294967296 := dg_lt gm (by decide) j
      have hwr := hbel.size
      clear hc1
      rcases Nat.lt_or_ge j k with hjk | hjk
      · obtain ⟨g', rfl, hg', hc2⟩ := he.at_ (by omega)
        have hy := (hbel.cell (p := ⟨g', j, none⟩) hg').trans (hc2 j hjk)
        clear hc2
        go_wp2_with (first
          | (at_builtin; refine wpList_append_fits _ rfl _ _ 110 rfl w.heap.size 161 i0 1 Tryz.underlying110 hi hz1 w.heap.size j (n + 1) (digV .u32 os) rfl (hown.alloc _) ⟨wr.heap.size, 0, none⟩ 1 1 [.int .u32 (((cy : Int) + (dg l j : Nat) + (dg m j : Nat)) % 4294967296)] rfl rfl ?c1 ?c2 ?c3 ?_))
        case c1 => exact u32_cell _ _ rfl
        case c2 => intro u hu; simp at hu; subst hu; rfl
        case c3 => omega
        intro w2 hown2 hg2
        go_wp2
        go_roundw
        case rel =>
          obtain ⟨r1, r2, r3, r4⟩ := sum_rel HO.out HV.out rfl rfl gos hcy b1 b2
          exact ⟨j + 1, (cy + dg l j + dg m j) / B32, os ++ [(cy + dg l j + dg m j) % B32], by omega, by go_num, congrArg _ (by unfold B32; omega), r1, rfl,
            row_cast hown2 (by unfold B32; omega), r2, r3, r4, (hbel.alloc hwr _).grown hg2 (by simp; omega) (by intro g h; injection h with h; omega)⟩
        case measure => simp [intOf]; omega
      · go_wp2_with (first
          | (at_builtin; refine wpList_append_fits _ rfl _ _ 110 rfl w.heap.size 161 i0 1 Tryz.underlying110 hi hz1 w.heap.size j (n + 1) (digV .u32 os) rfl (hown.alloc _) ⟨wr.heap.size, 0, none⟩ 1 1 [.int .u32 (((cy : Int) + (dg l j : Nat)) % 4294967296)] rfl rfl ?c1 ?c2 ?c3 ?_))
        case c1 => exact u32_cell _ _ rfl
        case c2 => intro u hu; simp at hu; subst hu; rfl
        case c3 => omega
        intro w2 hown2 hg2
        go_wp2
        go_roundw
        case rel =>
          obtain ⟨r1, r2, r3, r4⟩ := sum_rel (q := 0) HO.out HV.out rfl (dg_out (by omega)).symm gos hcy b1 (by omega)
          exact ⟨j + 1, (cy + dg l j + 0) / B32, os ++ [(cy + dg l j + 0) % B32], by omega, by go_num, congrArg _ (by unfold B32; omega), r1, rfl,
            row_cast hown2 (by unfold B32; omega), r2, r3, r4, (hbel.alloc hwr _).grown hg2 (by simp; omega) (by intro g h; injection h with h; omega)⟩
        case measure => simp [intOf]; omega
    · obtain rfl : j = n := by omega
      have hwr := hbel.size
      go_wp2_with (first
          | (at_builtin; refine wpList_append_fits _ rfl _ _ 110 rfl w.heap.size 161 i0 1 Tryz.underlying110 hi hz1 w.heap.size j (j + 1) (digV .u32 os) rfl (hown.alloc _) ⟨wr.heap.size, 0, none⟩ 1 1 [.int .u32 (cy : Int)] rfl rfl ?c1 ?c2 ?c3 ?_))
      case c1 => exact u32_cell _ _ rfl
      case c2 => intro u hu; simp at hu; subst hu; rfl
      case c3 => omega
      intro w2 hown2 hg2
      go_wp2
      go_ret
      have e1 : (os ++ [cy]).length = j + 1 := by simp [HO.out]
      refine ⟨_, os ++ [cy], rfl, by unfold Row; rw [e1]; exact row_cast hown2 rfl, e1, gos.snoc (by unfold B32; omega), ?_, (hbel.alloc hwr _).grown hg2 (by simp; omega) (by intro g h; injection h with h; omega)⟩
      have hv := HV.out
      rw [val_snoc, HO.out, hv, List.take_of_length_le (by omega), List.take_of_length_le (by omega)]


/-- The digits of a sum. -/
theorem sum_c (l m : List Nat) (A B : Option Addr) (n c k d : Nat) (w : World) (hd : Dig w .u32 161 A n l) (he : Dig w .u32 161 B k m)
    (gl : Digs B32 l) (gm : Digs B32 m) (hn : n ≤ 1000) (hk : k ≤ 1000) :
    Calls Tryz.prog 132 #[.slice A n c, .slice B k d] w fun e w' => ∃ v os, e = .returned v ∧ Row 161 w.heap.size w' v os ∧ 0 < os.length ∧ os.length ≤ 1001 ∧ Digs B32 os ∧ val B32 os = val B32 l + val B32 m ∧ Below w.heap.size w w' := by
  rcases Nat.lt_or_ge n k with h | h
  · refine (sum_short m l B A k d n c w he hd gm gl hk h).mono ?_
    rintro e w' ⟨v, os, rfl, h1, h2, h3, h4, h5⟩
    exact ⟨v, os, rfl, h1, by omega, by omega, h3, by omega, h5⟩
  · refine (sum_long l m A B n c k d w hd he gl gm hn h).mono ?_
    rintro e w' ⟨v, os, rfl, h1, h2, h3, h4, h5⟩
    exact ⟨v, os, rfl, h1, by omega, by omega, h3, by omega, h5⟩

end Go.Proofs.YtklblmbacnnoeaaGreatDoor
