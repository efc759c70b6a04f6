
/- The plain law: sums in any order are the same, and sums of parts add up. No program in sight. -/
import Derived.Test.YtegabimiegdcjaaSpec
namespace Go.Proofs.Ytegabimiegdcjaa
open Go.RowKit Limb

theorem foldl_front {α β : Type} (f : β → α → β) (hc : ∀ b x y, f (f b x) y = f (f b y) x) : ∀ (l : List α) (b : β) (a : α), l.foldl f (f b a) = f (l.foldl f b) a := by
  intro l
  induction l with
  | nil => intro b a; rfl
  | cons x l ih =>
    intro b a
    rw [List.foldl_cons, List.foldl_cons, hc, ih]
theorem foldl_rev {α β : Type} (f : β → α → β) (hc : ∀ b x y, f (f b x) y = f (f b y) x) : ∀ (l : List α) (b : β), l.reverse.foldl f b = l.foldl f b := by
  intro l
  induction l with
  | nil => intro b; rfl
  | cons x l ih =>
    intro b
    rw [List.reverse_cons, List.foldl_append, ih, List.foldl_cons, List.foldl_nil, List.foldl_cons, foldl_front f hc]
theorem sumR_reverse (ds : List (Int × Int)) : sumR ds.reverse = sumR ds := by
  have h1 : maxP ds.reverse = maxP ds := foldl_rev _ (fun b x y => by omega) ds 0
  have h2 : ∀ q, sumZ ds.reverse q = sumZ ds q := fun q => foldl_rev _ (fun b x y => by omega) ds 0
  have h3 : allB ds.reverse = allB ds := by
    unfold allB
    rw [Bool.eq_iff_iff, List.all_eq_true, List.all_eq_true]
    constructor
    · intro h d hd; exact h d (List.mem_reverse.2 hd)
    · intro h d hd; exact h d (List.mem_reverse.1 hd)
  unfold sumR
  rw [h1, h2, h3, List.length_reverse]

theorem sumZ_from (ds : List (Int × Int)) (q : Nat) (z : Int) : ds.foldl (fun z d => z + scaled d.1 d.2 q) z = z + sumZ ds q := by
  induction ds generalizing z with
  | nil => simp [sumZ]
  | cons d ds ih =>
    unfold sumZ
    rw [List.foldl_cons, List.foldl_cons, ih, ih]
    omega
theorem sumZ_append (a b : List (Int × Int)) (q : Nat) : sumZ (a ++ b) q = sumZ a q + sumZ b q := by
  unfold sumZ
  rw [List.foldl_append, sumZ_from]
  rfl
theorem scaled_more {u p : Int} {q : Nat} (_h0 : 0 ≤ p) (h1 : p ≤ q) (h2 : q ≤ 9) : scaled u p q * ((10 ^ (9 - q) : Nat) : Int) = scaled u p 9 := by
  unfold scaled
  rw [Int.mul_assoc, ← Int.natCast_mul, ← Nat.pow_add]
  congr 3
  omega
theorem sumZ_more (ds : List (Int × Int)) (q : Nat) (h2 : q ≤ 9) (h : ∀ d ∈ ds, 0 ≤ d.2 ∧ d.2 ≤ q) : sumZ ds q * ((10 ^ (9 - q) : Nat) : Int) = sumZ ds 9 := by
  induction ds with
  | nil => simp [sumZ]
  | cons d ds ih =>
    have e : ∀ r, sumZ (d :: ds) r = scaled d.1 d.2 r + sumZ ds r := fun r => by
      unfold sumZ
      rw [List.foldl_cons, sumZ_from, sumZ_from]
      omega
    have hd := h d (by simp)
    rw [e, e, Int.add_mul, scaled_more hd.1 hd.2 h2, ih fun x hx => h x (by simp [hx])]

/-- What a sum without a fault is. -/
theorem sum_exact {ds : List (Int × Int)} {x p : Int} (h : sumR ds = (x, p, 0)) : decB x p = true ∧ scaled x p 9 = sumZ ds 9 ∧ ds.length ≤ 1000 ∧ allB ds = true := by
  unfold sumR at h
  by_cases h1 : 1000 < ds.length
  · rw [if_pos h1] at h; simp at h
  rw [if_neg h1] at h
  by_cases h2 : allB ds = true
  · rw [if_pos h2] at h
    have hb := maxP_bound h2 ds.length (Nat.le_refl _)
    have hge := maxP_ge (ds := ds) ds.length
    rw [List.take_length] at hb hge
    unfold made at h
    by_cases h3 : (sumZ ds (maxP ds).toNat).natAbs ≤ 1000000000000000
    · rw [if_pos h3] at h
      simp only [Prod.mk.injEq] at h
      obtain ⟨hx, hp, _⟩ := h
      refine ⟨decB_mk (by omega), ?_, by omega, h2⟩
      rw [← hx, ← hp]
      refine Eq.trans ?_ (sumZ_more ds (maxP ds).toNat (by omega) fun d hd => ?_)
      · rfl
      · obtain ⟨j, hj, rfl⟩ := List.mem_iff_getElem.1 hd
        have h5 := hge j hj (Nat.le_refl _)
        have h6 := decB_out (allB_at h2 hj)
        rw [dec_get hj]
        simp only
        omega
    · rw [if_neg h3] at h; simp at h
  · rw [if_neg h2] at h; simp at h

theorem sum_fault (ds : List (Int × Int)) : (sumR ds).2.2 = 0 ∨ ((sumR ds).1 = 0 ∧ ((sumR ds).2.2 = 1 ∨ (sumR ds).2.2 = 2)) := by
  unfold sumR
  split
  · simp
  · split
    · unfold made; split <;> simp
    · simp

/-- The parts' sums, added. -/
theorem sum_parts {ds : List (Int × Int)} {k : Nat} {x p a q b r : Int} (hx : sumR ds = (x, p, 0)) (ha : sumR (ds.take k) = (a, q, 0)) (hb : sumR (ds.drop k) = (b, r, 0)) :
    (sumR [(a, q), (b, r)]).2.2 = 1 ∨ ∃ z t, sumR [(a, q), (b, r)] = (z, t, 0) ∧ decB x p = true ∧ decB z t = true ∧ (scaled x p 9 - scaled z t 9).sign = 0 := by
  obtain ⟨d1, e1, _, _⟩ := sum_exact hx
  obtain ⟨d2, e2, _, _⟩ := sum_exact ha
  obtain ⟨d3, e3, _, _⟩ := sum_exact hb
  rcases sum_fault [(a, q), (b, r)] with h | ⟨_, h | h⟩
  · right
    obtain ⟨⟨z, t, f⟩, hs⟩ : ∃ R, sumR [(a, q), (b, r)] = R := ⟨_, rfl⟩
    rw [hs] at h
    simp only at h
    subst h
    obtain ⟨d4, e4, _, _⟩ := sum_exact hs
    refine ⟨z, t, hs, d1, d4, ?_⟩
    have e5 : sumZ ds 9 = sumZ (ds.take k) 9 + sumZ (ds.drop k) 9 := by rw [← sumZ_append, List.take_append_drop]
    have e6 : sumZ [(a, q), (b, r)] 9 = scaled a q 9 + scaled b r 9 := by simp [sumZ]
    rw [e1, e4, e6, e2, e3, e5]
    simp
  · exact .inl h
  · exfalso
    have hall : allB [(a, q), (b, r)] = true := by rw [allB_two, d2, d3]; rfl
    have h2 : sumR [(a, q), (b, r)] = made (sumZ [(a, q), (b, r)] (maxP [(a, q), (b, r)]).toNat) (maxP [(a, q), (b, r)]) := by
      unfold sumR; rw [if_neg (by simp), if_pos hall]
    rw [h2] at h
    unfold made at h
    split at h <;> simp at h

end Go.Proofs.Ytegabimiegdcjaa
