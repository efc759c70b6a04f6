
/- Plain facts on shares: they are together what was shared, each near its exact part. -/
import Derived.Test.YtegabimiegdcjaaS10
namespace Go.Proofs.Ytegabimiegdcjaa
open Go.RowKit Limb Work Stab
set_option linter.unusedVariables false

def sumN (c : Nat → Int) : Nat → Int
  | 0 => 0
  | n + 1 => sumN c n + c n
theorem sumN_congr {c d : Nat → Int} : ∀ n, (∀ x, x < n → c x = d x) → sumN c n = sumN d n
  | 0, _ => rfl
  | n + 1, h => by
    show sumN c n + c n = sumN d n + d n
    rw [sumN_congr n fun x hx => h x (by omega), h n (by omega)]
theorem sumN_upd {h h' : Nat → Int} {k : Nat} : ∀ m, k < m → (∀ x, x < m → x ≠ k → h' x = h x) → sumN h' m + h k = sumN h m + h' k
  | 0, hk, _ => by omega
  | m + 1, hk, hh => by
    show sumN h' m + h' m + h k = sumN h m + h m + h' k
    rcases Nat.lt_or_ge k m with h1 | h1
    · have h2 := sumN_upd m h1 fun x hx hn => hh x (by omega) hn
      rw [hh m (by omega) (by omega)]
      omega
    · have hk' : k = m := by omega
      subst hk'
      rw [sumN_congr k fun x hx => hh x (by omega) (by omega)]
      omega
theorem sumN_add (c d : Nat → Int) : ∀ n, sumN (fun x => c x + d x) n = sumN c n + sumN d n
  | 0 => rfl
  | n + 1 => by
    show sumN (fun x => c x + d x) n + (c n + d n) = sumN c n + c n + (sumN d n + d n)
    rw [sumN_add c d n]; omega
theorem sumN_neg (c : Nat → Int) : ∀ n, sumN (fun x => -c x) n = -sumN c n
  | 0 => rfl
  | n + 1 => by
    show sumN (fun x => -c x) n + -c n = -(sumN c n + c n)
    rw [sumN_neg c n]; omega
theorem sumN_below {L : Nat} : ∀ n, sumN (fun x => if x < L then 1 else 0) n = ((min n L : Nat) : Int)
  | 0 => by simp [sumN]
  | n + 1 => by
    show sumN (fun x => if x < L then 1 else 0) n + (if n < L then 1 else 0) = _
    rw [sumN_below n]
    split <;> omega
/-- A sum over all shares in whatever order. -/
theorem sumN_bij (c : Nat → Int) : ∀ (n : Nat) (f : Nat → Nat), Bij n f → sumN (fun x => c (f x)) n = sumN c n
  | 0, _, _ => rfl
  | m + 1, f, hB => by
    obtain ⟨g, hg⟩ := hB
    obtain ⟨k1, k2, k3, k4⟩ := hg m (by omega)
    have hB : Bij (m + 1) f := ⟨g, hg⟩
    have hB' : Bij m (swf f (g m) m) := by
      have h0 := hB.swap (i := g m) (j := m) k2 (by omega)
      have hm : swf f (g m) m m = m := by unfold swf; rw [if_pos rfl]; exact k3
      obtain ⟨g', hg'⟩ := h0
      have hgm : g' m = m := by have := (hg' m (by omega)).2.2.2; rwa [hm] at this
      refine ⟨g', fun x hx => ?_⟩
      obtain ⟨l1, l2, l3, l4⟩ := hg' x (by omega)
      refine ⟨?_, ?_, l3, l4⟩
      · have : swf f (g m) m x ≠ m := fun e => by rw [e, hgm] at l4; omega
        omega
      · have : g' x ≠ m := fun e => by rw [e, hm] at l3; omega
        omega
    have ih := sumN_bij c m _ hB'
    show sumN (fun x => c (f x)) m + c (f m) = sumN c m + c m
    rw [← ih]
    rcases Nat.lt_or_ge (g m) m with h1 | h1
    · have h2 := sumN_upd (h := fun x => c (f x)) (h' := fun x => c (swf f (g m) m x)) m h1 (fun x hx hn => by
        show c (swf f (g m) m x) = c (f x)
        unfold swf
        rw [if_neg (by omega), if_neg hn])
      have e1 : swf f (g m) m (g m) = f m := by unfold swf; rw [if_neg (by omega), if_pos rfl]
      simp only [e1, k3] at h2
      omega
    · have hgm : g m = m := by omega
      have hfm : f m = m := by rw [← hgm]; rw [hgm]; rw [hgm] at k3; exact k3
      rw [hfm]
      congr 1
      exact sumN_congr m fun x hx => by
        show c (f x) = c (swf f (g m) m x)
        unfold swf
        rw [if_neg (by omega), if_neg (by omega)]

section
variable {u : Int} {ws : List Int} {f : Nat → Nat}
theorem sumQ_N (U S : Nat) (ws : List Int) : ∀ n, ((sumQ U S ws n : Nat) : Int) = sumN (fun j => ((shQ U S ws j : Nat) : Int)) n
  | 0 => rfl
  | n + 1 => by
    show ((sumQ U S ws n + shQ U S ws n : Nat) : Int) = sumN _ n + ((shQ U S ws n : Nat) : Int)
    rw [← sumQ_N U S ws n]; omega
theorem sum_parts' {U S : Nat} {ws : List Int} : ∀ k, k ≤ ws.length → okW ws k → ((sumQ U S ws k * S : Nat) : Int) + sumN (fun j => ((shR U S ws j : Nat) : Int)) k = (U : Int) * sumW ws k := by
  intro k
  induction k with
  | zero => intro _ _; simp [sumQ, sumW_zero, sumN]
  | succ k ih =>
    intro hk hok
    have h1 := ih (by omega) (fun p hp => hok p (by omega))
    have h3 := hok k (by omega)
    have e2 := Nat.div_add_mod (U * (hol ws k).toNat) S
    rw [sumW_step (by omega), Int.mul_add, ← h1]
    show (((sumQ U S ws k + shQ U S ws k) * S : Nat) : Int) + (sumN _ k + ((shR U S ws k : Nat) : Int)) = _
    have e3 : (U : Int) * hol ws k = ((S * shQ U S ws k + shR U S ws k : Nat) : Int) := by
      unfold shQ shR
      rw [e2, Int.natCast_mul]
      congr 1
      omega
    rw [e3, Nat.add_mul, Nat.mul_comm (shQ U S ws k) S]
    omega
theorem sumN_zero_tail {c : Nat → Int} {k : Nat} : ∀ n, k ≤ n → (∀ x, k ≤ x → x < n → c x = 0) → sumN c n = sumN c k
  | 0, hk, _ => by have : k = 0 := by omega
                   subst this; rfl
  | n + 1, hk, h => by
    rcases Nat.lt_or_ge k (n + 1) with h1 | h1
    · show sumN c n + c n = _
      rw [sumN_zero_tail n (by omega) (fun x h2 h3 => h x h2 (by omega)), h n (by omega) (by omega)]
      omega
    · have : k = n + 1 := by omega
      subst this; rfl
theorem sumN_le {c : Nat → Int} {M : Int} : ∀ n, (∀ x, x < n → c x ≤ M) → sumN c n ≤ n * M
  | 0, _ => by simp [sumN]
  | n + 1, h => by
    show sumN c n + c n ≤ _
    have h1 := sumN_le n fun x hx => h x (by omega)
    have h2 := h n (by omega)
    have e : ((n + 1 : Nat) : Int) * M = n * M + M := by rw [Int.natCast_add, Int.add_mul]; simp
    omega

/-- Who gets one more has a rest; and no more get one than there are. -/
theorem more_rest (hw : wtF ws = 0) (hB : Bij ws.length f) (hS : Srt (shR u.natAbs (sumW ws ws.length).toNat ws) f 0 ws.length) :
    (∀ x, x < ws.length → x < u.natAbs - sumQ u.natAbs (sumW ws ws.length).toNat ws ws.length → 0 < shR u.natAbs (sumW ws ws.length).toNat ws (f x)) ∧ u.natAbs - sumQ u.natAbs (sumW ws ws.length).toNat ws ws.length ≤ ws.length := by
  obtain ⟨hn0, hn1, hok, hs⟩ := wtF_ok hw
  obtain ⟨S, hSe⟩ : ∃ S : Nat, sumW ws ws.length = (S : Int) := ⟨(sumW ws ws.length).toNat, by omega⟩
  have hT : (sumW ws ws.length).toNat = S := by omega
  rw [hT] at hS ⊢
  have hS0 : 0 < S := by omega
  have hp := sum_parts' (U := u.natAbs) (S := S) ws.length (Nat.le_refl _) hok
  have hq := sumQ_le (U := u.natAbs) hS0 ws.length (Nat.le_refl _) hok (by omega)
  rw [hSe] at hp
  obtain ⟨n, hn⟩ : ∃ n, n = ws.length := ⟨_, rfl⟩
  rw [← hn] at hB hS hp hq ⊢
  generalize u.natAbs = U at *
  obtain ⟨L, hL⟩ : ∃ L, L = U - sumQ U S ws n := ⟨_, rfl⟩
  rw [← hL]
  have hLS : sumN (fun j => ((shR U S ws j : Nat) : Int)) n = ((L * S : Nat) : Int) := by
    have e : U * S = sumQ U S ws n * S + L * S := by rw [← Nat.add_mul]; congr 1; omega
    have e2 : (U : Int) * (S : Int) = ((U * S : Nat) : Int) := by rw [Int.natCast_mul]
    rw [e2] at hp
    omega
  have hbij := sumN_bij (fun j => ((shR U S ws j : Nat) : Int)) n f hB
  have hr : ∀ j, shR U S ws j < S := fun j => Nat.mod_lt _ hS0
  refine ⟨fun x hx hxL => ?_, ?_⟩
  · rcases Nat.eq_zero_or_pos (shR U S ws (f x)) with h0 | h0
    · exfalso
      have hz := sumN_zero_tail (c := fun x => ((shR U S ws (f x) : Nat) : Int)) (k := x) n (by omega) (fun y h1 h2 => by
        have := hS.le (x := x) (y := y) (by omega) h1 h2
        show ((shR U S ws (f y) : Nat) : Int) = 0
        omega)
      have hle := sumN_le (c := fun x => ((shR U S ws (f x) : Nat) : Int)) (M := ((S : Nat) : Int)) x (fun y _ => by
        show ((shR U S ws (f y) : Nat) : Int) ≤ S
        have := hr (f y); omega)
      have h2 : (x + 1) * S ≤ L * S := Nat.mul_le_mul_right S hxL
      rw [Nat.add_mul, Nat.one_mul] at h2
      have h3 : ((x : Nat) : Int) * ((S : Nat) : Int) = ((x * S : Nat) : Int) := by rw [Int.natCast_mul]
      omega
    · exact h0
  · have hle := sumN_le (c := fun j => ((shR U S ws j : Nat) : Int)) (M := ((S : Nat) : Int)) n (fun y _ => by
      show ((shR U S ws y : Nat) : Int) ≤ S
      have := hr y; omega)
    have h3 : ((n : Nat) : Int) * ((S : Nat) : Int) = ((n * S : Nat) : Int) := by rw [Int.natCast_mul]
    have h4 : L * S ≤ n * S := by omega
    exact Nat.le_of_mul_le_mul_right h4 hS0

/-- What the law asks of the shares, by the number of the share. -/
theorem share_facts (hd : u.natAbs ≤ 1000000000000000) (hw : wtF ws = 0) (hB : Bij ws.length f) (hS : Srt (shR u.natAbs (sumW ws ws.length).toNat ws) f 0 ws.length) :
    ∃ o : Nat → Int, (∀ x, x < ws.length → o (f x) = outV u ws f x) ∧ sumN o ws.length = u ∧ ∀ i, i < ws.length → (hol ws i = 0 → o i = 0) ∧ (o i * sumW ws ws.length - u * hol ws i).natAbs < (sumW ws ws.length).toNat ∧ (o i).natAbs ≤ 1000000000000001 := by
  obtain ⟨m1, m2⟩ := more_rest hw hB hS
  obtain ⟨g, hg⟩ := hB
  have hB : Bij ws.length f := ⟨g, hg⟩
  obtain ⟨hn0, hn1, hok, hs⟩ := wtF_ok hw
  have hof : ∀ x, x < ws.length → outV u ws f (g (f x)) = outV u ws f x := fun x hx => by rw [(hg x hx).2.2.2]
  refine ⟨fun i => outV u ws f (g i), hof, ?_, fun i hi => ?_⟩
  · rw [← sumN_bij (fun i => outV u ws f (g i)) ws.length f hB, sumN_congr ws.length hof]
    obtain ⟨S, hSe⟩ : ∃ S : Nat, sumW ws ws.length = (S : Int) := ⟨(sumW ws ws.length).toNat, by omega⟩
    have hq := sumQ_le (U := u.natAbs) (S := S) (by omega) ws.length (Nat.le_refl _) hok (by omega)
    have hT : (sumW ws ws.length).toNat = S := by omega
    rw [hT] at m1 m2
    have hsum : sumN (fun x => ((shQ u.natAbs S ws (f x) + if x < u.natAbs - sumQ u.natAbs S ws ws.length then 1 else 0 : Nat) : Int)) ws.length = u.natAbs := by
      have e : sumN (fun x => ((shQ u.natAbs S ws (f x) + if x < u.natAbs - sumQ u.natAbs S ws ws.length then 1 else 0 : Nat) : Int)) ws.length = sumN (fun x => ((shQ u.natAbs S ws (f x) : Nat) : Int) + (if x < u.natAbs - sumQ u.natAbs S ws ws.length then 1 else 0)) ws.length :=
        sumN_congr _ fun x _ => by split <;> omega
      rw [e, sumN_add, sumN_below, sumN_bij (fun j => ((shQ u.natAbs S ws j : Nat) : Int)) ws.length f hB, ← sumQ_N]
      omega
    unfold outV
    simp only [hT]
    by_cases hu : u < 0
    · simp only [if_pos hu]
      rw [sumN_neg, hsum]
      omega
    · simp only [if_neg hu]
      rw [hsum]
      omega
  · obtain ⟨g1, g2, g3, g4⟩ := hg i hi
    obtain ⟨S, hSe⟩ : ∃ S : Nat, sumW ws ws.length = (S : Int) := ⟨(sumW ws ws.length).toNat, by omega⟩
    have hT : (sumW ws ws.length).toNat = S := by omega
    have hwi := hok i hi
    have hwl := w_le ws.length (Nat.le_refl _) hok i hi
    rw [hT] at m1
    have hm := m1 (g i) g2
    rw [g3] at hm
    have e2 := Nat.div_add_mod (u.natAbs * (hol ws i).toNat) S
    have hrl : shR u.natAbs S ws i < S := Nat.mod_lt _ (by omega)
    have hql := shQ_le (U := u.natAbs) (S := S) (ws := ws) (j := i) (by omega) (by omega)
    unfold outV
    simp only [hT, g3]
    rw [hSe]
    have e3 : u.natAbs * (hol ws i).toNat = S * shQ u.natAbs S ws i + shR u.natAbs S ws i := by unfold shQ shR; exact e2.symm
    generalize shQ u.natAbs S ws i = q at *
    generalize shR u.natAbs S ws i = r at *
    obtain ⟨W, hW⟩ : ∃ W : Nat, hol ws i = (W : Int) := ⟨(hol ws i).toNat, by omega⟩
    have hWt : (hol ws i).toNat = W := by omega
    rw [hWt] at e3
    have e4 : ((u.natAbs : Nat) : Int) * (W : Int) = (S : Int) * (q : Int) + (r : Int) := by
      have := congrArg (fun n : Nat => (n : Int)) e3
      simp only [Int.natCast_mul, Int.natCast_add] at this
      exact this
    refine ⟨fun h0 => ?_, ?_, ?_⟩
    · have hW0 : W = 0 := by omega
      subst hW0
      simp only [Nat.mul_zero] at e3
      have hr0 : r = 0 := by omega
      have hq0 : q = 0 := by
        have : S * q = 0 := by omega
        rcases Nat.mul_eq_zero.1 this with h | h <;> omega
      have hc : ¬ g i < u.natAbs - sumQ u.natAbs S ws ws.length := fun h => by have := hm h; omega
      rw [if_neg hc, hq0]
      split <;> rfl
    · rw [hW]
      have key : ∀ c : Nat, c ≤ 1 → (c = 1 → 0 < r) → ((((q + c : Nat) : Int) * (S : Int)) - ((u.natAbs : Nat) : Int) * (W : Int)).natAbs < S := fun c hc hcr => by
        rw [e4, Int.natCast_add, Int.add_mul, Int.mul_comm (q : Int) (S : Int)]
        rcases Nat.eq_zero_or_pos c with h | h
        · subst h; simp; omega
        · have : c = 1 := by omega
          subst this
          have := hcr rfl
          simp
          omega
      have hk := key (if g i < u.natAbs - sumQ u.natAbs S ws ws.length then 1 else 0) (by split <;> omega) (fun h => by
        split at h
        · rename_i h2; exact hm h2
        · omega)
      by_cases hu : u < 0
      · rw [if_pos hu]
        have eu : u = -((u.natAbs : Nat) : Int) := by omega
        have : -(((q + if g i < u.natAbs - sumQ u.natAbs S ws ws.length then 1 else 0 : Nat) : Int)) * (S : Int) - u * (W : Int) = -((((q + if g i < u.natAbs - sumQ u.natAbs S ws ws.length then 1 else 0 : Nat) : Int) * (S : Int)) - ((u.natAbs : Nat) : Int) * (W : Int)) := by
          conv => lhs; rw [eu]
          simp only [Int.natAbs_neg, Int.natAbs_natCast]
          rw [Int.neg_mul, Int.neg_mul]
          omega
        rw [this, Int.natAbs_neg]
        exact hk
      · rw [if_neg hu]
        have eu : u = ((u.natAbs : Nat) : Int) := by omega
        have : (((q + if g i < u.natAbs - sumQ u.natAbs S ws ws.length then 1 else 0 : Nat) : Int)) * (S : Int) - u * (W : Int) = ((((q + if g i < u.natAbs - sumQ u.natAbs S ws ws.length then 1 else 0 : Nat) : Int) * (S : Int)) - ((u.natAbs : Nat) : Int) * (W : Int)) := by
          rw [← eu]
        rw [this]
        exact hk
    · split <;> split <;> omega
end
end Go.Proofs.Ytegabimiegdcjaa
