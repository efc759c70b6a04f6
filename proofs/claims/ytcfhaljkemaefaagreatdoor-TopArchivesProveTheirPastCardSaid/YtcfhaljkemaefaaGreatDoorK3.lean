/- Plain facts on units: products that are cancelled, and the law of factors there and back. No program in sight. Units in memory, and the walks of package amount: IsName, unitAt, unitFault. The walks of package amount's numbers: isSum, taxDigit, bankRestOf. The walks of package amount's numbers: bankRestOf, isBank, isTax, isNumber, IsNumber, Widened. -/
import Derived.Test.YtcfhaljkemaefaaGreatDoorM0
import Derived.Test.YtcfhaljkemaefaaGreatDoorShelf
import Derived.Test.YtcfhaljkemaefaaGreatDoorA7
import Derived.WalkLawsBesides
import Derived.Test.YtcfhaljkemaefaaGreatDoorD1
import Derived.Deep.QuietTactic
import Derived.BigQuiet
import Derived.Laws.IdiomStrings
-- merged: U2 U3 K2 K3

namespace Go.Proofs.YtcfhaljkemaefaaGreatDoor
open Go.RowKit
set_option linter.unusedVariables false
set_option linter.unusedSimpArgs false

def prodN (l : List Nat) : Nat := l.foldl (fun a b => a * b) 1
theorem prodN_from : ∀ (l : List Nat) (c : Nat), l.foldl (fun a b => a * b) c = c * prodN l
  | [], c => by simp [prodN]
  | x :: l, c => by
    unfold prodN
    rw [List.foldl_cons, List.foldl_cons, prodN_from l (c * x), prodN_from l (1 * x), Nat.one_mul, Nat.mul_assoc]
theorem prodN_cons (x : Nat) (l : List Nat) : prodN (x :: l) = x * prodN l := by
  have := prodN_from l (1 * x)
  unfold prodN at this ⊢
  rw [List.foldl_cons, this, Nat.one_mul]
theorem prodN_nil : prodN [] = 1 := rfl
theorem prodN_append : ∀ (l m : List Nat), prodN (l ++ m) = prodN l * prodN m
  | [], m => by rw [List.nil_append, prodN_nil, Nat.one_mul]
  | x :: l, m => by rw [List.cons_append, prodN_cons, prodN_cons, prodN_append l m, Nat.mul_assoc]
theorem prodN_take {l : List Nat} {k : Nat} (h : k < l.length) : prodN (l.take (k + 1)) = prodN (l.take k) * l[k] := by
  unfold prodN; rw [foldl_snoc _ _ _ _ h]
theorem prodN_pos : ∀ {l : List Nat}, (∀ x ∈ l, 1 ≤ x) → 1 ≤ prodN l
  | [], _ => Nat.le_refl _
  | x :: l, h => by
    rw [prodN_cons]
    exact Nat.mul_le_mul (h x (by simp)) (prodN_pos fun y hy => h y (by simp [hy]))
theorem prodN_le : ∀ {l : List Nat}, (∀ x ∈ l, x ≤ 1000000) → prodN l ≤ 1000000 ^ l.length
  | [], _ => Nat.le_refl _
  | x :: l, h => by
    rw [prodN_cons, List.length_cons, Nat.pow_succ, Nat.mul_comm (1000000 ^ l.length)]
    exact Nat.mul_le_mul (h x (by simp)) (prodN_le fun y hy => h y (by simp [hy]))
theorem prodN_set : ∀ {l : List Nat} {i : Nat} (h : i < l.length) (x : Nat), prodN (l.set i x) * l[i] = prodN l * x
  | a :: l, 0, _, x => by
    rw [List.set_cons_zero, prodN_cons, prodN_cons, List.getElem_cons_zero, Nat.mul_right_comm, Nat.mul_comm x a, Nat.mul_right_comm]
  | a :: l, i + 1, h, x => by
    have := prodN_set (l := l) (i := i) (by simpa using h) x
    rw [List.set_cons_succ, prodN_cons, prodN_cons, List.getElem_cons_succ, Nat.mul_assoc, this, Nat.mul_assoc]
theorem coprime_prod {x : Nat} : ∀ {m : List Nat}, (∀ y ∈ m, Nat.Coprime x y) → Nat.Coprime x (prodN m)
  | [], _ => Nat.coprime_one_right x
  | y :: m, h => by
    rw [prodN_cons]
    exact Nat.Coprime.mul_right (h y (by simp)) (coprime_prod fun z hz => h z (by simp [hz]))
theorem coprime_prods : ∀ {l m : List Nat}, (∀ x ∈ l, ∀ y ∈ m, Nat.Coprime x y) → Nat.Coprime (prodN l) (prodN m)
  | [], m, _ => Nat.coprime_one_left (prodN m)
  | x :: l, m, h => by
    rw [prodN_cons]
    exact Nat.Coprime.mul_left (coprime_prod (h x (by simp))) (coprime_prods fun z hz => h z (by simp [hz]))

/-- A number over another one in lowest terms: both, and the fault if one is too large. -/
def lowest (P Q : Nat) : Int × Int × Int :=
  if P / Nat.gcd P Q ≤ 1000000000000000 ∧ Q / Nat.gcd P Q ≤ 1000000000000000 then (((P / Nat.gcd P Q : Nat) : Int), ((Q / Nat.gcd P Q : Nat) : Int), 0) else (0, 0, 1)
theorem lowest_of {A B P Q : Nat} (hA : 0 < A) (hc : Nat.Coprime A B) (h : A * Q = P * B) (hQ : 0 < Q) (hB : 0 < B) : P / Nat.gcd P Q = A ∧ Q / Nat.gcd P Q = B := by
  have h1 : A ∣ P := hc.dvd_of_dvd_mul_right (h ▸ Nat.dvd_mul_right A Q)
  obtain ⟨c, rfl⟩ := h1
  have h2 : Q = B * c := by
    rw [Nat.mul_assoc] at h
    have := Nat.eq_of_mul_eq_mul_left hA h
    rw [this, Nat.mul_comm]
  subst h2
  have hcp : 0 < c := Nat.pos_of_mul_pos_left hQ
  have e : Nat.gcd (A * c) (B * c) = c := by rw [Nat.gcd_mul_right, hc, Nat.one_mul]
  rw [e, Nat.mul_div_cancel _ hcp, Nat.mul_div_cancel _ hcp]
  exact ⟨rfl, rfl⟩

/-- Two rows of factors, cancelled up to a place. -/
def gA (l : List Nat) (j : Nat) : Nat := l.getD j 1
structure Canc (N0 D0 N D : List Nat) (i k : Nat) : Prop where
  ln : N.length = N0.length
  ld : D.length = D0.length
  bn : ∀ x ∈ N, 1 ≤ x ∧ x ≤ 1000000
  bd : ∀ x ∈ D, 1 ≤ x ∧ x ≤ 1000000
  eq : prodN N * prodN D0 = prodN N0 * prodN D
  c1 : ∀ a, a < i → ∀ b, b < D.length → Nat.Coprime (gA N a) (gA D b)
  c2 : ∀ b, b < k → Nat.Coprime (gA N i) (gA D b)
theorem gA_get {l : List Nat} {j : Nat} (h : j < l.length) : l[j] = gA l j := by
  unfold gA; rw [List.getD_eq_getElem?_getD, List.getElem?_eq_getElem h]; rfl
theorem gA_set {l : List Nat} {i j x : Nat} (h : i < l.length) : gA (l.set i x) j = if i = j then x else gA l j := by
  unfold gA
  rw [List.getD_eq_getElem?_getD, List.getD_eq_getElem?_getD, List.getElem?_set]
  by_cases e : i = j
  · subst e; simp [h]
  · simp [e]
theorem mem_gA {l : List Nat} {j : Nat} (h : j < l.length) : gA l j ∈ l := by rw [← gA_get h]; exact List.getElem_mem h
theorem Canc.start {N0 D0 : List Nat} (bn : ∀ x ∈ N0, 1 ≤ x ∧ x ≤ 1000000) (bd : ∀ x ∈ D0, 1 ≤ x ∧ x ≤ 1000000) : Canc N0 D0 N0 D0 0 0 :=
  ⟨rfl, rfl, bn, bd, rfl, fun a h => by omega, fun b h => by omega⟩
theorem Canc.row {N0 D0 N D : List Nat} {i k : Nat} (h : Canc N0 D0 N D i k) (hk : k = D0.length) : Canc N0 D0 N D (i + 1) 0 :=
  ⟨h.ln, h.ld, h.bn, h.bd, h.eq, fun a ha b hb => by
    rcases Nat.lt_or_ge a i with g | g
    · exact h.c1 a g b hb
    · rw [show a = i by omega]; exact h.c2 b (by rw [hk, ← h.ld]; exact hb), fun b h => by omega⟩
theorem Canc.step {N0 D0 N D : List Nat} {i k : Nat} (h : Canc N0 D0 N D i k) (hi : i < N0.length) (hk : k < D0.length) :
    Canc N0 D0 (N.set i (gA N i / Nat.gcd (gA N i) (gA D k))) (D.set k (gA D k / Nat.gcd (gA N i) (gA D k))) i (k + 1) := by
  have hi' : i < N.length := by rw [h.ln]; exact hi
  have hk' : k < D.length := by rw [h.ld]; exact hk
  have b1 := h.bn _ (mem_gA hi')
  have b2 := h.bd _ (mem_gA hk')
  have e1 := prodN_set hi' (gA N i / Nat.gcd (gA N i) (gA D k))
  have e2 := prodN_set hk' (gA D k / Nat.gcd (gA N i) (gA D k))
  rw [gA_get] at e1 e2
  have d1 : Nat.gcd (gA N i) (gA D k) ∣ gA N i := Nat.gcd_dvd_left _ _
  have d2 : Nat.gcd (gA N i) (gA D k) ∣ gA D k := Nat.gcd_dvd_right _ _
  have g0 : 0 < Nat.gcd (gA N i) (gA D k) := Nat.gcd_pos_of_pos_left _ (by omega)
  have hcop : Nat.Coprime (gA N i / Nat.gcd (gA N i) (gA D k)) (gA D k / Nat.gcd (gA N i) (gA D k)) := Nat.coprime_div_gcd_div_gcd g0
  generalize hx : gA N i / Nat.gcd (gA N i) (gA D k) = x at *
  generalize hy : gA D k / Nat.gcd (gA N i) (gA D k) = y at *
  have m1 : gA N i = x * Nat.gcd (gA N i) (gA D k) := by rw [← hx, Nat.div_mul_cancel d1]
  have m2 : gA D k = y * Nat.gcd (gA N i) (gA D k) := by rw [← hy, Nat.div_mul_cancel d2]
  generalize hg : Nat.gcd (gA N i) (gA D k) = g at *
  have x0 : 0 < x := by rcases Nat.eq_zero_or_pos x with z | z; (rw [z] at m1; omega); exact z
  have y0 : 0 < y := by rcases Nat.eq_zero_or_pos y with z | z; (rw [z] at m2; omega); exact z
  have xle : x ≤ gA N i := by rw [m1]; exact Nat.le_mul_of_pos_right _ g0
  have yle : y ≤ gA D k := by rw [m2]; exact Nat.le_mul_of_pos_right _ g0
  have p1 : prodN N = prodN (N.set i x) * g := by
    apply Nat.eq_of_mul_eq_mul_right x0
    rw [← e1, Nat.mul_assoc, Nat.mul_comm g x, ← m1]
  have p2 : prodN D = prodN (D.set k y) * g := by
    apply Nat.eq_of_mul_eq_mul_right y0
    rw [← e2, Nat.mul_assoc, Nat.mul_comm g y, ← m2]
  have he := h.eq
  refine ⟨by simp [h.ln], by simp [h.ld], ?_, ?_, ?_, ?_, ?_⟩
  · intro z hz
    rcases List.mem_or_eq_of_mem_set hz with g | g
    · exact h.bn z g
    · subst g; omega
  · intro z hz
    rcases List.mem_or_eq_of_mem_set hz with g | g
    · exact h.bd z g
    · subst g; omega
  · rw [p1, p2] at he
    apply Nat.eq_of_mul_eq_mul_right g0
    rw [Nat.mul_right_comm, he, Nat.mul_assoc]
  · intro a ha b hb
    rw [gA_set hi', if_neg (by omega), gA_set hk']
    have hb' : b < D.length := by simpa using hb
    split
    · next e =>
      subst e
      exact Nat.Coprime.coprime_dvd_right ⟨g, m2⟩ (h.c1 a ha k hk')
    · exact h.c1 a ha b hb'
  · intro b hb
    rw [gA_set hi', if_pos rfl, gA_set hk']
    split
    · next e =>
      exact hcop
    · exact Nat.Coprime.coprime_dvd_left ⟨g, m1⟩ (h.c2 b (by omega))
theorem Canc.done {N0 D0 N D : List Nat} {i : Nat} (h : Canc N0 D0 N D i 0) (hi : i = N0.length) (h0 : ∀ x ∈ D0, 1 ≤ x) :
    prodN N0 / Nat.gcd (prodN N0) (prodN D0) = prodN N ∧ prodN D0 / Nat.gcd (prodN N0) (prodN D0) = prodN D := by
  refine lowest_of (prodN_pos fun x hx => (h.bn x hx).1) (coprime_prods ?_) h.eq (prodN_pos h0) (prodN_pos fun x hx => (h.bd x hx).1)
  intro x hx y hy
  obtain ⟨a, ha, rfl⟩ := List.getElem_of_mem hx
  obtain ⟨b, hb, rfl⟩ := List.getElem_of_mem hy
  rw [gA_get, gA_get]
  exact h.c1 a (by rw [hi, ← h.ln]; exact ha) b hb

/-! ### Factors -/
def chL (us : List Unt) (i : Nat) : List Nat := (chainU us i).getD []
def xU (us : List Unt) (j : Nat) : Nat := (uA us j).num.toNat
def yU (us : List Unt) (j : Nat) : Nat := (uA us j).den.toNat
/-- What multiplies on the way from one number to another one. -/
def topL (us : List Unt) (i k : Nat) : List Nat := (chL us i).map (xU us) ++ (chL us k).map (yU us)
def botL (us : List Unt) (i k : Nat) : List Nat := (chL us i).map (yU us) ++ (chL us k).map (xU us)
def facF (us : List Unt) (x y : List UInt8) : Int :=
  if chkU us ≠ 0 then chkU us else
  match idxU us x, idxU us y with
  | some i, some k => if (chL us i).getLast? ≠ (chL us k).getLast? then 6 else 0
  | _, _ => 5
def ratR (us : List Unt) (x y : List UInt8) : Int × Int × Int :=
  if facF us x y ≠ 0 then (0, 0, facF us x y)
  else lowest (prodN (topL us ((idxU us x).getD 0) ((idxU us y).getD 0))) (prodN (botL us ((idxU us x).getD 0) ((idxU us y).getD 0)))

theorem bot_top (us : List Unt) (i k : Nat) : prodN (botL us i k) = prodN (topL us k i) := by
  unfold botL topL; rw [prodN_append, prodN_append, Nat.mul_comm]
theorem lowest_swap {P Q : Nat} : (lowest P Q).2.2 = (lowest Q P).2.2 ∧ (lowest P Q).1 = (lowest Q P).2.1 := by
  unfold lowest
  rw [Nat.gcd_comm P Q]
  by_cases h : P / Nat.gcd Q P ≤ 1000000000000000 ∧ Q / Nat.gcd Q P ≤ 1000000000000000
  · rw [if_pos h, if_pos ⟨h.2, h.1⟩]; exact ⟨rfl, rfl⟩
  · rw [if_neg h, if_neg (fun g => h ⟨g.2, g.1⟩)]; exact ⟨rfl, rfl⟩
theorem facF_swap (us : List Unt) (x y : List UInt8) : facF us x y = facF us y x := by
  unfold facF
  split
  · rfl
  · cases idxU us x <;> cases idxU us y <;> simp only [ne_eq, eq_comm]
theorem rat_swap (us : List Unt) (x y : List UInt8) : (ratR us x y).2.2 = (ratR us y x).2.2 ∧ (ratR us x y).1 = (ratR us y x).2.1 := by
  unfold ratR
  rw [facF_swap us x y]
  by_cases h : facF us y x ≠ 0
  · rw [if_pos h, if_pos h]; exact ⟨rfl, rfl⟩
  · rw [if_neg h, if_neg h, bot_top, bot_top]
    exact lowest_swap
theorem lowest_fault {P Q : Nat} : (lowest P Q).2.2 = 0 ∨ (lowest P Q).2.2 = 1 := by
  unfold lowest; split <;> simp

theorem chkU_ok {us : List Unt} (h : chkU us = 0) : us.length ≤ 200 ∧ (∀ i, i < us.length → uFault us i = 0) ∧ (∀ i, i < us.length → knownU us i = true) ∧ (∀ i, i < us.length → chF us i = 0) := by
  unfold chkU at h
  split at h
  · simp at h
  · split at h
    · rename_i h1 h2; exact absurd h h2
    · split at h
      · simp at h
      · rename_i h1 h2 h3
        have h2 : firstF (uFault us) us.length = 0 := by omega
        have h3 : firstF (fun i => if knownU us i then 0 else 9) us.length = 0 := by omega
        refine ⟨by omega, ?_, ?_, ?_⟩
        · rcases firstF_cases (uFault us) us.length with ⟨_, g⟩ | ⟨m, _, g1, g2, _⟩
          · exact g
          · rw [h2] at g1; exact absurd g1.symm g2
        · rcases firstF_cases (fun i => if knownU us i then 0 else 9) us.length with ⟨_, g⟩ | ⟨m, _, g1, g2, _⟩
          · intro i hi
            have := g i hi
            simpa using this
          · rw [h3] at g1; exact absurd g1.symm g2
        · rcases firstF_cases (chF us) us.length with ⟨_, g⟩ | ⟨m, _, g1, g2, _⟩
          · exact g
          · rw [h] at g1; exact absurd g1.symm g2
theorem uFault_ok {us : List Unt} {i : Nat} (h : uFault us i = 0) : nameB (nmU us i) = true ∧ (0 < i → Lib.compareBytes (nmU us (i - 1)) (nmU us i) < 0) ∧ (1 ≤ (uA us i).num ∧ (uA us i).num ≤ 1000000) ∧ (1 ≤ (uA us i).den ∧ (uA us i).den ≤ 1000000) ∧ (ofU us i = [] → (uA us i).num = 1 ∧ (uA us i).den = 1) := by
  unfold uFault at h
  split at h
  · simp at h
  · split at h
    · simp at h
    · split at h
      · simp at h
      · split at h
        · simp at h
        · rename_i h1 h2 h3 h4
          refine ⟨by simpa using h1, ?_, ?_, ?_, ?_⟩
          · intro h0
            by_cases g : Lib.compareBytes (nmU us (i - 1)) (nmU us i) < 0
            · exact g
            · exact absurd ⟨h0, g⟩ h2
          · omega
          · omega
          · intro h0
            constructor
            · by_cases g : (uA us i).num = 1
              · exact g
              · exact absurd ⟨h0, .inl g⟩ h4
            · by_cases g : (uA us i).den = 1
              · exact g
              · exact absurd ⟨h0, .inr g⟩ h4
theorem chkU_sort {us : List Unt} (h : ∀ i, i < us.length → uFault us i = 0) : SortU us := sortU_of fun i h0 hi => (uFault_ok (h i hi)).2.1 h0
theorem chF_ok {us : List Unt} {i : Nat} (h : chF us i = 0) : ∃ c, chainU us i = some c ∧ c.length ≤ 5 := by
  unfold chF at h
  cases hc : chainU us i with
  | none => rw [hc] at h; simp at h
  | some c =>
    rw [hc] at h
    refine ⟨c, rfl, ?_⟩
    by_cases g : 5 < c.length
    · simp [g] at h
    · omega
theorem chainF_lt {nx : Nat → Option Nat} {n : Nat} (h : ∀ i j, nx i = some j → j < n) : ∀ (f i : Nat) (c : List Nat), i < n → chainF nx f i = some c → ∀ x ∈ c, x < n := by
  intro f
  induction f with
  | zero =>
    intro i c hi hc x hx
    unfold chainF at hc
    split at hc
    · injection hc with hc; subst hc; simp at hx; omega
    · cases hc
  | succ f ih =>
    intro i c hi hc x hx
    unfold chainF at hc
    split at hc
    · injection hc with hc; subst hc; simp at hx; omega
    · rename_i j e
      cases hc2 : chainF nx f j with
      | none => rw [hc2] at hc; simp at hc
      | some c2 =>
        rw [hc2] at hc
        simp at hc
        subst hc
        rcases List.mem_cons.1 hx with rfl | hx
        · exact hi
        · exact ih j c2 (h i j e) hc2 x hx
theorem nxtU_lt {us : List Unt} {i j : Nat} (h : nxtU us i = some j) : j < us.length := by
  unfold nxtU at h
  split at h
  · cases h
  · exact (idxU_some h).1
theorem chL_ok {us : List Unt} (h : chkU us = 0) {i : Nat} (hi : i < us.length) : chainU us i = some (chL us i) ∧ (chL us i).length ≤ 5 ∧ ∀ x ∈ chL us i, x < us.length := by
  obtain ⟨_, _, _, h4⟩ := chkU_ok h
  obtain ⟨c, hc, hl⟩ := chF_ok (h4 i hi)
  have e : chL us i = c := by unfold chL; rw [hc]; rfl
  rw [e]
  exact ⟨hc, hl, chainF_lt (fun i j => nxtU_lt) _ _ _ hi hc⟩
theorem fac_bounds {us : List Unt} (h : chkU us = 0) {i : Nat} (hi : i < us.length) : (1 ≤ xU us i ∧ xU us i ≤ 1000000) ∧ (1 ≤ yU us i ∧ yU us i ≤ 1000000) ∧ ((xU us i : Nat) : Int) = (uA us i).num ∧ ((yU us i : Nat) : Int) = (uA us i).den := by
  obtain ⟨_, h2, _⟩ := chkU_ok h
  obtain ⟨_, _, h3, h4, _⟩ := uFault_ok (h2 i hi)
  unfold xU yU
  omega
theorem top_bounds {us : List Unt} (h : chkU us = 0) {i k : Nat} (hi : i < us.length) (hk : k < us.length) : (∀ x ∈ topL us i k, 1 ≤ x ∧ x ≤ 1000000) ∧ (topL us i k).length ≤ 10 ∧ (∀ x ∈ botL us i k, 1 ≤ x ∧ x ≤ 1000000) ∧ (botL us i k).length ≤ 10 := by
  obtain ⟨_, l1, b1⟩ := chL_ok h hi
  obtain ⟨_, l2, b2⟩ := chL_ok h hk
  refine ⟨?_, by unfold topL; simp; omega, ?_, by unfold botL; simp; omega⟩
  · intro x hx
    unfold topL at hx
    rcases List.mem_append.1 hx with g | g
    · obtain ⟨j, hj, rfl⟩ := List.mem_map.1 g
      exact (fac_bounds h (b1 j hj)).1
    · obtain ⟨j, hj, rfl⟩ := List.mem_map.1 g
      exact (fac_bounds h (b2 j hj)).2.1
  · intro x hx
    unfold botL at hx
    rcases List.mem_append.1 hx with g | g
    · obtain ⟨j, hj, rfl⟩ := List.mem_map.1 g
      exact (fac_bounds h (b1 j hj)).2.1
    · obtain ⟨j, hj, rfl⟩ := List.mem_map.1 g
      exact (fac_bounds h (b2 j hj)).1
/-- A unit in itself. -/
theorem rat_self {us : List Unt} (h : chkU us = 0) {x : List UInt8} {i : Nat} (hi : idxU us x = some i) : ratR us x x = (1, 1, 0) := by
  have e : facF us x x = 0 := by
    unfold facF
    rw [if_neg (by omega), hi]
    simp
  unfold ratR
  rw [if_neg (by omega), hi, Option.getD_some, bot_top]
  have hp : 0 < prodN (topL us i i) := prodN_pos fun y hy => ((top_bounds h (idxU_some hi).1 (idxU_some hi).1).1 y hy).1
  unfold lowest
  rw [Nat.gcd_self, Nat.div_self hp]
  rfl
end Go.Proofs.YtcfhaljkemaefaaGreatDoor

namespace Go.Proofs.YtcfhaljkemaefaaGreatDoor
open Go.RowKit Limb
set_option linter.unusedVariables false
set_option linter.unusedSimpArgs false

/-- A slice of units as it lies in memory. -/
def Uns (w : World) (A : Option Addr) (n : Nat) (us : List Unt) : Prop :=
  us.length = n ∧ (∀ u ∈ us, (-9223372036854775808 ≤ u.num ∧ u.num ≤ 9223372036854775807) ∧ (-9223372036854775808 ≤ u.den ∧ u.den ≤ 9223372036854775807) ∧ u.name.size ≤ 9223372036854775807 ∧ u.of.size ≤ 9223372036854775807) ∧
    (0 < n → ∃ b off, A = some ⟨b, off, none⟩ ∧ b < w.heap.size ∧ ∀ j, j < n → w.cell? ⟨b, off + j * 4, none⟩ = some (.string (uA us j).name) ∧ w.cell? ⟨b, off + j * 4 + 1, none⟩ = some (.string (uA us j).of) ∧ w.cell? ⟨b, off + j * 4 + 2, none⟩ = some (.int .i64 (uA us j).num) ∧ w.cell? ⟨b, off + j * 4 + 3, none⟩ = some (.int .i64 (uA us j).den))
theorem Uns.below {w w' : World} {A : Option Addr} {n : Nat} {us : List Unt} (h : Uns w A n us) (hb : Below w.heap.size w w') : Uns w' A n us :=
  ⟨h.1, h.2.1, fun hn => by
    obtain ⟨b, off, e, hl, hc⟩ := h.2.2 hn
    exact ⟨b, off, e, Nat.lt_of_lt_of_le hl hb.size, fun j hj => ⟨(hb.cell (p := ⟨b, off + j * 4, none⟩) hl).trans (hc j hj).1, (hb.cell (p := ⟨b, off + j * 4 + 1, none⟩) hl).trans (hc j hj).2.1, (hb.cell (p := ⟨b, off + j * 4 + 2, none⟩) hl).trans (hc j hj).2.2.1, (hb.cell (p := ⟨b, off + j * 4 + 3, none⟩) hl).trans (hc j hj).2.2.2⟩⟩⟩
theorem Uns.alloc {w : World} {A : Option Addr} {n : Nat} {us : List Unt} (h : Uns w A n us) (o : Obj) : Uns (w.alloc o) A n us := h.below ((Below.refl _ _).alloc (Nat.le_refl _) o)
theorem Uns.drew {w : World} {A : Option Addr} {n : Nat} {us : List Unt} (h : Uns w A n us) : Uns w.drew A n us := h
theorem Uns.rng {w : World} {A : Option Addr} {n : Nat} {us : List Unt} (h : Uns w A n us) {j : Nat} (hj : j < n) : (-9223372036854775808 ≤ (uA us j).num ∧ (uA us j).num ≤ 9223372036854775807) ∧ (-9223372036854775808 ≤ (uA us j).den ∧ (uA us j).den ≤ 9223372036854775807) ∧ (uA us j).name.size ≤ 9223372036854775807 ∧ (uA us j).of.size ≤ 9223372036854775807 := by
  have hl : j < us.length := by rw [h.1]; exact hj
  have := h.2.1 us[j] (List.getElem_mem hl)
  rw [uA_get hl] at this
  exact this
/-- The four cells of the unit at a place. -/
theorem Uns.at_ {w : World} {A : Option Addr} {n : Nat} {us : List Unt} (h : Uns w A n us) {j : Nat} (hj : j < n) : ∃ b off, A = some ⟨b, off, none⟩ ∧ b < w.heap.size ∧ w.cell? ⟨b, off + j * 4, none⟩ = some (.string (uA us j).name) ∧ w.cell? ⟨b, off + j * 4 + 1, none⟩ = some (.string (uA us j).of) ∧ w.cell? ⟨b, off + j * 4 + 2, none⟩ = some (.int .i64 (uA us j).num) ∧ w.cell? ⟨b, off + j * 4 + 3, none⟩ = some (.int .i64 (uA us j).den) := by
  obtain ⟨b, off, e, hl, hc⟩ := h.2.2 (by omega)
  exact ⟨b, off, e, hl, hc j hj⟩

/-! ### Names -/
def nameSet : ByteArray := ⟨#[97, 98, 99, 100, 101, 102, 103, 104, 105, 106, 107, 108, 109, 110, 111, 112, 113, 114, 115, 116, 117, 118, 119, 120, 121, 122, 48, 49, 50, 51, 52, 53, 54, 55, 56, 57, 45]⟩
theorem nameSet_fin : ∀ i : Fin 256, nameSet.data.toList.contains (UInt8.ofNat i.val) = nameC (UInt8.ofNat i.val) := by decide +kernel
theorem nameSet_c (c : UInt8) : nameSet.data.toList.contains c = nameC c := by
  have := nameSet_fin ⟨c.toNat, c.toNat_lt⟩
  simp only [UInt8.ofNat_toNat] at this
  exact this
theorem dropW_nil {α : Type} (p : α → Bool) : ∀ l : List α, l.dropWhile p = [] ↔ ∀ x ∈ l, p x = true
  | [] => by simp
  | a :: l => by
    rw [List.dropWhile_cons]
    cases h : p a with
    | true => simp [h, dropW_nil p l]
    | false => simp [h]
theorem trimS_nil (l cs : List UInt8) : (Lib.trimS l cs).isEmpty = l.all (cs.contains ·) := by
  have e : Lib.trimS l cs = (l.reverse.dropWhile (cs.contains ·)).reverse.dropWhile (cs.contains ·) := rfl
  rw [e]
  cases h : l.reverse.dropWhile (cs.contains ·) with
  | nil =>
    rw [dropW_nil] at h
    have : l.all (cs.contains ·) = true := List.all_eq_true.2 fun x hx => h x (by simpa using hx)
    rw [this]; rfl
  | cons a m =>
    have h1 : cs.contains a = false := by
      have := List.head?_dropWhile_not (cs.contains ·) l.reverse
      rw [h] at this
      simpa using this
    have h2 : a ∈ l := by
      have : a ∈ l.reverse.dropWhile (cs.contains ·) := by rw [h]; simp
      have := (List.dropWhile_sublist (cs.contains ·)).subset this
      simpa using this
    have h3 : l.all (cs.contains ·) = false := by
      rw [Bool.eq_false_iff]
      intro h4
      have := List.all_eq_true.1 h4 a h2
      rw [h1] at this; cases this
    rw [h3]
    rw [Bool.eq_false_iff]
    intro h4
    rw [List.isEmpty_iff, dropW_nil] at h4
    have := h4 a (by simp)
    rw [h1] at this; cases this
theorem trim_name (l : List UInt8) : (Lib.trimS l nameSet.data.toList).isEmpty = l.all nameC := by
  rw [trimS_nil]
  congr 1
  funext c
  exact nameSet_c c
theorem head_at {s : ByteArray} (h : 0 < s.size) : s.data.toList.headD 0 = s[0] := by
  have := head_get h
  cases hl : s.data.toList with
  | nil => rw [hl] at this; cases this
  | cons a m => rw [hl] at this; injection this

def RetB (b : Bool) (w : World) (e : Ending) (w' : World) : Prop := e = .returned (.bool b) ∧ Below w.heap.size w w'
set_option maxHeartbeats 1000000 in
set_option maxRecDepth 100000 in
theorem isname_c (s : ByteArray) (w : World) (hs : s.size ≤ 9223372036854775807) :
    Calls Tryz.prog 70 #[.string s] w (RetB (nameB s.data.toList) w) := by
  have hlen : s.data.toList.length = s.size := by simp
  by_cases h1 : 1 ≤ s.size ∧ s.size ≤ 40
  · obtain ⟨h1, h2⟩ := h1
    have hh := head_at (s := s) (by omega)
    have en : nameB s.data.toList = (lowB s[0] && s.data.toList.all nameC) := by
      unfold nameB; rw [hlen, hh, decide_eq_true ⟨h1, h2⟩, Bool.true_and]
    by_cases h3 : 97 ≤ s[0].toNat ∧ s[0].toNat ≤ 122
    · have en2 : nameB s.data.toList = (Lib.trimS s.data.toList nameSet.data.toList).isEmpty := by
        rw [en, trim_name]; unfold lowB; rw [decide_eq_true h3, Bool.true_and]
      rw [en2]
      obtain ⟨h3, h4⟩ := h3
      have hcon := Tryz.strings_Trim_laid s nameSet w hs (by decide) (ascii_of_all (by decide))
      obtain ⟨r, hr⟩ : ∃ r : ByteArray, (⟨(Lib.trimS s.data.toList nameSet.data.toList).toArray⟩ : ByteArray) = r := ⟨_, rfl⟩
      have er : (Lib.trimS s.data.toList nameSet.data.toList).isEmpty = r.toList.isEmpty := by rw [← hr, Lib.toList_data]
      rw [hr] at hcon
      unfold nameSet at hcon
      rw [er]
      clear hr er en en2 hh hlen
      have h3' : ¬ (s[0].toNat : Int) < 97 := by omega
      have h4' : ¬ (122 : Int) < (s[0].toNat : Int) := by omega
      cases hb : r.toList.isEmpty with
      | true =>
        go_enter Tryz.func70, Tryz.ntmps70
        go_wp2_with (go_at_call 31; refine hcon.mono ?_; rintro e w1 ⟨rfl, hb1⟩)
        go_ret
        exact ⟨rfl, hb1⟩
      | false =>
        go_enter Tryz.func70, Tryz.ntmps70
        go_wp2_with (go_at_call 31; refine hcon.mono ?_; rintro e w1 ⟨rfl, hb1⟩)
        go_ret
        exact ⟨rfl, hb1⟩
    · have en2 : nameB s.data.toList = false := by rw [en]; unfold lowB; rw [decide_eq_false h3]; rfl
      rw [en2]
      clear en en2 hh hlen
      by_cases h4 : s[0].toNat < 97
      · have h4' : (s[0].toNat : Int) < 97 := by omega
        clear h3
        go_enter Tryz.func70, Tryz.ntmps70
        go_wp2
        go_ret
        exact ⟨rfl, Below.refl _ _⟩
      · have h4' : ¬ (s[0].toNat : Int) < 97 := by omega
        have h5' : (122 : Int) < (s[0].toNat : Int) := by omega
        clear h3 h4
        go_enter Tryz.func70, Tryz.ntmps70
        go_wp2
        go_ret
        exact ⟨rfl, Below.refl _ _⟩
  · have en : nameB s.data.toList = false := by unfold nameB; rw [hlen, decide_eq_false h1]; rfl
    rw [en]
    clear en hlen
    by_cases h2 : s.size < 1
    · clear h1
      go_enter Tryz.func70, Tryz.ntmps70
      go_wp2
      go_ret
      exact ⟨rfl, Below.refl _ _⟩
    · have h3 : 40 < s.size := by omega
      clear h1
      go_enter Tryz.func70, Tryz.ntmps70
      go_wp2
      go_ret
      exact ⟨rfl, Below.refl _ _⟩

/-! ### The search -/
def Unt.val (u : Unt) : Value := .agg #[.string u.name, .string u.of, .int .i64 u.num, .int .i64 u.den]
/-- The first i units are before a name, and those from j on are not. -/
def SplitU (us : List Unt) (x : List UInt8) (i j : Nat) : Prop := (∀ p, p < i → Lib.compareBytes (nmU us p) x < 0) ∧ (∀ p, j ≤ p → p < us.length → ¬ Lib.compareBytes (nmU us p) x < 0)
theorem SplitU.up {us : List Unt} {x : List UInt8} {i j m : Nat} (hs : SortU us) (h : SplitU us x i j) (hm : m < us.length) (hd : Lib.compareBytes (nmU us m) x < 0) : SplitU us x (m + 1) j := by
  refine ⟨fun p hp => ?_, h.2⟩
  rcases Nat.lt_or_ge p m with h1 | h1
  · exact cb_trans (hs p m h1 hm) hd
  · rw [show p = m by omega]; exact hd
theorem SplitU.down {us : List Unt} {x : List UInt8} {i j m : Nat} (hs : SortU us) (h : SplitU us x i j) (hd : ¬ Lib.compareBytes (nmU us m) x < 0) : SplitU us x i m := by
  refine ⟨h.1, fun p hp hpn => ?_⟩
  rcases Nat.eq_or_lt_of_le hp with h1 | h1
  · rw [← h1]; exact hd
  · intro h2
    exact hd (cb_trans (hs m p h1 hpn) h2)
/-- What the search comes to: where the name stands, and whether it does. -/
def foundU (us : List Unt) (x : List UInt8) : Bool := (idxU us x).isSome
theorem SplitU.end_ {us : List Unt} {x : List UInt8} {i : Nat} (hs : SortU us) (h : SplitU us x i i) :
    foundU us x = decide (i < us.length ∧ Lib.compareBytes (nmU us i) x = 0) ∧ (foundU us x = true → idxU us x = some i) := by
  have key : foundU us x = true → i < us.length ∧ nmU us i = x ∧ idxU us x = some i := by
    intro hf
    unfold foundU at hf
    obtain ⟨k, hk⟩ := Option.isSome_iff_exists.1 hf
    obtain ⟨h1, h2⟩ := idxU_some hk
    rcases Nat.lt_trichotomy k i with h3 | h3 | h3
    · have := h.1 k h3; rw [h2, cb_self] at this; omega
    · subst h3; exact ⟨h1, h2, hk⟩
    · have h4 := h.2 i (Nat.le_refl _) (by omega)
      have h5 := hs i k h3 h1
      rw [h2] at h5
      exact absurd h5 h4
  constructor
  · rw [Bool.eq_iff_iff, decide_eq_true_iff]
    constructor
    · intro hf
      obtain ⟨h1, h2, _⟩ := key hf
      exact ⟨h1, by rw [h2]; exact cb_self x⟩
    · rintro ⟨h1, h2⟩
      unfold foundU
      rw [idxU_of hs h1 (cb_eq h2)]; rfl
  · intro hf
    exact (key hf).2.2

/-- What unitAt comes to. -/
def AtU (us : List Unt) (x : List UInt8) (n : Nat) (w : World) (e : Ending) (w' : World) : Prop :=
  Below w.heap.size w w' ∧ ∃ i : Nat, i ≤ n ∧ e = .returned (.tuple #[.int .i64 (i : Int), .bool (foundU us x)]) ∧ (foundU us x = true → idxU us x = some i)
end Go.Proofs.YtcfhaljkemaefaaGreatDoor

namespace Go.Proofs.YtcfhaljkemaefaaGreatDoor
open Go.RowKit Limb Nmb
set_option linter.unusedVariables false
set_option linter.unusedSimpArgs false

theorem ivK {a b : Int} (h : a = b) : Value.int .i64 a = .int .i64 b := by rw [h]
/-! ### Bytes -/
theorem byS (s : ByteArray) (j : Nat) (h : j < s.size) : (s[j].toNat : Int) = byA s.data.toList j := by
  rw [byA_get (by simpa using h)]; rfl
theorem szL (s : ByteArray) : s.data.toList.length = s.size := by simp
theorem inB_inL (l : List UInt8) (a b : Nat) : inB l a b = inL l a b := by
  rw [Bool.eq_iff_iff]
  unfold inB
  rw [List.all_eq_true]
  constructor
  · intro h
    refine inL_mk (fun i hi => ?_)
    have := of_decide_eq_true (h l[i] (List.getElem_mem hi))
    rw [byA_get hi]
    omega
  · intro h c hc
    obtain ⟨i, hi, rfl⟩ := List.getElem_of_mem hc
    have := inL_yes h hi
    rw [byA_get hi] at this
    exact decide_eq_true (by omega)
theorem digB_digs (l : List UInt8) : digB l = digs l := by
  unfold digB digs
  rw [inB_inL, Bool.and_comm]
  rfl

theorem sum_bd {l : List UInt8} (h : ∀ i, i < l.length → 0 ≤ dgt l i ∧ dgt l i ≤ 9) {k : Nat} (hk : k ≤ l.length) : 0 ≤ sumF (wt l) k ∧ sumF (wt l) k ≤ 27 * k := by
  induction k with
  | zero => exact ⟨Int.le_refl _, Int.le_refl _⟩
  | succ k ih =>
    have a := ih (by omega)
    have b := h (l.length - 1 - k) (by omega)
    rw [sumF]
    have : 0 ≤ wt l k ∧ wt l k ≤ 27 := by
      unfold wt
      rcases tr_cases k with ⟨_, e⟩ | ⟨_, e⟩ <;> rw [e] <;> omega
    omega
theorem wt_odd {l : List UInt8} {k : Nat} (h : k % 2 = 1) : wt l k = dgt l (l.length - 1 - k) * 3 := by unfold wt tr; rw [if_pos h]
theorem wt_even {l : List UInt8} {k : Nat} (h : ¬ k % 2 = 1) : wt l k = dgt l (l.length - 1 - k) := by unfold wt tr; rw [if_neg h, Int.mul_one]

theorem taxD_sub (l : List UInt8) : taxD l = 48 + (11 - taxP l 10) % 10 := rfl
end Go.Proofs.YtcfhaljkemaefaaGreatDoor

namespace Go.Proofs.YtcfhaljkemaefaaGreatDoor
open Go.RowKit Limb Nmb
set_option linter.unusedVariables false
set_option linter.unusedSimpArgs false

/-! ### Letters and digits -/
def tagSet : ByteArray := ⟨#[65, 66, 67, 68, 69, 70, 71, 72, 73, 74, 75, 76, 77, 78, 79, 80, 81, 82, 83, 84, 85, 86, 87, 88, 89, 90, 48, 49, 50, 51, 52, 53, 54, 55, 56, 57]⟩
theorem tagSet_fin : ∀ i : Fin 256, tagSet.data.toList.contains (UInt8.ofNat i.val) = tagC ((UInt8.ofNat i.val).toNat : Int) := by decide +kernel
theorem tagSet_c (c : UInt8) : tagSet.data.toList.contains c = tagC (c.toNat : Int) := by
  have := tagSet_fin ⟨c.toNat, c.toNat_lt⟩
  simp only [UInt8.ofNat_toNat] at this
  exact this
theorem trim_tag (l : List UInt8) : (Lib.trimS l tagSet.data.toList).isEmpty = tagL l := by
  rw [trimS_nil]
  unfold tagL
  congr 1
  funext c
  exact tagSet_c c
theorem inb_c (s : ByteArray) (lo hi : Nat) (w : World) (hs : s.size ≤ 9223372036854775807) :
    Calls Tryz.prog 39 #[.string s, .int .u8 (lo : Int), .int .u8 (hi : Int)] w fun e w' => w = w' ∧ e = .returned (.bool (inL s.data.toList lo hi)) := by
  rw [← inB_inL]
  cases h : inB s.data.toList lo hi with
  | true => exact inb_yes s lo hi w h hs
  | false => exact inb_no s lo hi w h hs
/-! ### What a number of a bank leaves -/
theorem tag_app {a b : List UInt8} : tagL (a ++ b) = (tagL a && tagL b) := by unfold tagL; rw [List.all_append]
theorem tag_take_drop {l : List UInt8} (k : Nat) (h : tagL l = true) : tagL (l.drop k ++ l.take k) = true := by
  have : tagL (l.take k ++ l.drop k) = true := by rw [List.take_append_drop]; exact h
  rw [tag_app, Bool.and_eq_true] at this
  rw [tag_app, this.1, this.2]; rfl
theorem ext_drop (s : ByteArray) (k : Nat) : (s.extract k s.size).data.toList = s.data.toList.drop k := by rw [Lib.extract_to_end]
theorem ext_take (s : ByteArray) (k : Nat) : (s.extract 0 k).data.toList = s.data.toList.take k := by rw [Lib.extract_data]; simp
theorem row_facts (w : World) (t : ByteArray) (cap : Nat) (W : World) (h : (w.alloc (.cells (bytesRow t cap) 5 ((bytesRow t cap).size, (bytesRow t cap).size + 1))).drew.drew = W) :
    (∀ k, (hk : k < t.size) → W.cell? ⟨w.heap.size, k, none⟩ = some (.int .u8 (t[k].toNat : Int))) ∧ Below w.heap.size w W := by
  subst h
  refine ⟨fun k hk => ?_, by go_grown⟩
  have := World.cell?_alloc_mark w (bytesRow t cap) 5 ((bytesRow t cap).size, (bytesRow t cap).size + 1) k
  exact this.trans (bytesRow_at t cap k hk)
theorem rest_next {l : List UInt8} {k : Nat} (h : k < l.length) : restF (l.take (k + 1)) 0 = stBk (restF (l.take k) 0) (byA l k) := restF_take h 0
end Go.Proofs.YtcfhaljkemaefaaGreatDoor
