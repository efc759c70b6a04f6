
/- Plain: a list of bytes is cut at each of one byte; the library's split at one byte is this. -/
import Derived.Lib.SplitLaws
import Derived.Lib.IndexBytes
import Derived.Lib.Hide
import Derived.Test.YtmeefinnefanpaaDoorProg
namespace Go.Proofs.YtmeefinnefanpaaDoor
set_option linter.unusedVariables false
set_option linter.unusedSimpArgs false

def qHd (x : UInt8) : List (List UInt8) → List (List UInt8)
  | [] => [[x]]
  | p :: ps => (x :: p) :: ps
/-- The pieces of a list between bytes g. -/
def pcs (g : UInt8) : List UInt8 → List (List UInt8)
  | [] => [[]]
  | x :: l => if x = g then [] :: pcs g l else qHd x (pcs g l)
/-- The pieces put together again. -/
def jn (g : UInt8) : List (List UInt8) → List UInt8
  | [] => []
  | [p] => p
  | p :: q :: ps => p ++ g :: jn g (q :: ps)
theorem pcs_ne (g : UInt8) : ∀ l, pcs g l ≠ []
  | [] => by simp [pcs]
  | x :: l => by
    unfold pcs
    split
    · simp
    · cases pcs g l <;> simp [qHd]
theorem jn_cons {g : UInt8} {p : List UInt8} {ps : List (List UInt8)} (h : ps ≠ []) : jn g (p :: ps) = p ++ g :: jn g ps := by
  cases ps with
  | nil => exact absurd rfl h
  | cons q ps => rfl
theorem jn_hd {g x : UInt8} : ∀ {ps : List (List UInt8)}, jn g (qHd x ps) = x :: jn g ps
  | [] => rfl
  | [p] => rfl
  | p :: q :: ps => rfl
theorem jn_pcs (g : UInt8) : ∀ l, jn g (pcs g l) = l
  | [] => rfl
  | x :: l => by
    unfold pcs
    split
    next h => rw [jn_cons (pcs_ne g l), jn_pcs g l, h]; rfl
    next h => rw [jn_hd, jn_pcs g l]
theorem pcs_no (g : UInt8) : ∀ l, ∀ p ∈ pcs g l, g ∉ p
  | [], p, h => by simp [pcs] at h; subst h; simp
  | x :: l, p, h => by
    have ih := pcs_no g l
    unfold pcs at h
    split at h
    next hx =>
      rcases List.mem_cons.1 h with h | h
      · subst h; simp
      · exact ih p h
    next hx =>
      rcases hp : pcs g l with _ | ⟨q, qs⟩
      · exact absurd hp (pcs_ne g l)
      · rw [hp] at h ih
        rcases List.mem_cons.1 h with h | h
        · subst h
          have := ih q (by simp)
          simp only [List.mem_cons, not_or]
          exact ⟨fun e => hx e.symm, this⟩
        · exact ih p (by simp [h])
theorem pcs_none {g : UInt8} : ∀ {l}, g ∉ l → pcs g l = [l]
  | [], _ => rfl
  | x :: l, h => by
    have h1 : x ≠ g := fun e => h (by simp [e])
    have h2 : g ∉ l := fun e => h (by simp [e])
    unfold pcs
    rw [if_neg h1, pcs_none h2]
    rfl
theorem pcs_hit {g : UInt8} : ∀ {a b}, g ∉ a → pcs g (a ++ g :: b) = a :: pcs g b
  | [], b, _ => by show (if g = g then _ else _) = _; rw [if_pos rfl]
  | x :: a, b, h => by
    have h1 : x ≠ g := fun e => h (by simp [e])
    have h2 : g ∉ a := fun e => h (by simp [e])
    have ih := pcs_hit (b := b) h2
    rw [List.cons_append, pcs, if_neg h1, ih]
    rfl
theorem pcs_app {g : UInt8} : ∀ {a b}, g ∉ b → pcs g (a ++ g :: b) = pcs g a ++ [b]
  | [], b, h => by show (if g = g then _ else _) = _; rw [if_pos rfl, pcs_none h]; rfl
  | x :: a, b, h => by
    have ih := pcs_app (a := a) h
    rw [List.cons_append, pcs, pcs, ih]
    split
    · rfl
    · rcases hp : pcs g a with _ | ⟨q, qs⟩
      · exact absurd hp (pcs_ne g a)
      · rfl
theorem pcs_len (g : UInt8) : ∀ l, (pcs g l).length = l.count g + 1
  | [] => rfl
  | x :: l => by
    have ih := pcs_len g l
    unfold pcs
    split
    next h => subst h; rw [List.length_cons, ih, List.count_cons_self]
    next h =>
      rw [List.count_cons_of_ne h, ← ih]
      rcases hp : pcs g l with _ | ⟨q, qs⟩
      · exact absurd hp (pcs_ne g l)
      · rfl
theorem pcs_sum (g : UInt8) : ∀ l, ∀ p ∈ pcs g l, p.length ≤ l.length
  | [], p, h => by simp [pcs] at h; subst h; simp
  | x :: l, p, h => by
    have ih := pcs_sum g l
    unfold pcs at h
    split at h
    next hx =>
      rcases List.mem_cons.1 h with h | h
      · subst h; simp
      · have := ih p h; simp; omega
    next hx =>
      rcases hp : pcs g l with _ | ⟨q, qs⟩
      · exact absurd hp (pcs_ne g l)
      · rw [hp] at h ih
        rcases List.mem_cons.1 h with h | h
        · subst h
          have := ih q (by simp)
          simp; omega
        · have := ih p (by simp [h]); simp; omega
theorem idx_cases (g : UInt8) : ∀ l, (Lib.indexByte l g = -1 ∧ g ∉ l) ∨ ∃ i : Nat, Lib.indexByte l g = i ∧ i < l.length ∧ l = l.take i ++ g :: l.drop (i + 1) ∧ g ∉ l.take i
  | [] => .inl ⟨rfl, by simp⟩
  | x :: l => by
    unfold Lib.indexByte
    by_cases hx : x = g
    · subst hx
      right
      exact ⟨0, by simp, by simp, by simp, by simp⟩
    · rw [if_neg (by simpa using hx)]
      rcases idx_cases g l with ⟨h1, h2⟩ | ⟨i, h1, h2, h3, h4⟩
      · left
        rw [h1]
        exact ⟨by simp, by simp only [List.mem_cons, not_or]; exact ⟨fun e => hx e.symm, h2⟩⟩
      · right
        rw [h1]
        refine ⟨i + 1, by rw [if_neg (by simp)]; rfl, by simp only [List.length_cons]; omega, ?_, ?_⟩
        · rw [List.take_succ_cons, List.drop_succ_cons, List.cons_append, ← h3]
        · rw [List.take_succ_cons]
          simp only [List.mem_cons, not_or]
          exact ⟨fun e => hx e.symm, h4⟩
theorem splitK_pcs (g : UInt8) : ∀ (k : Nat) (l : List UInt8), l.count g = k → Lib.splitK [g] 0 k l = pcs g l
  | 0, l, h => by
    have : g ∉ l := fun e => by have := List.count_pos_iff.2 e; omega
    rw [pcs_none this]; rfl
  | k + 1, l, h => by
    have hm : g ∈ l := List.count_pos_iff.1 (by omega)
    rcases idx_cases g l with ⟨h1, h2⟩ | ⟨i, h1, h2, h3, h4⟩
    · exact absurd hm h2
    · unfold Lib.splitK
      rw [Lib.index_one, h1, if_neg (by simp), Int.toNat_natCast, Nat.add_zero, List.length_singleton]
      have hc : (l.drop (i + 1)).count g = k := by
        have h5 := congrArg (List.count g) h3
        rw [List.count_append, List.count_cons_self, List.count_eq_zero.2 h4] at h5
        omega
      rw [splitK_pcs g k _ hc]
      conv => rhs; rw [h3]
      rw [pcs_hit h4]
/-- The library's cut at one byte, in lists. -/
theorem split_pcs (s sep : ByteArray) (g : UInt8) (h : sep.data.toList = [g]) : (Lib.splitB sep 0 (Lib.countB s sep) s).map (fun x => x.data.toList) = pcs g s.data.toList := by
  have e : Lib.countB s sep = s.data.toList.count g := by unfold Lib.countB; rw [h, Lib.count_one]
  rw [Lib.splitB_data, h, e]
  exact splitK_pcs g _ _ rfl
end Go.Proofs.YtmeefinnefanpaaDoor
