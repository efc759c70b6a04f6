
/- Plain facts on units: names in order, the chain from a unit to its base, products that are cancelled. No program in sight. -/
import Derived.Test.YtlkidhfjkgppoaaDoorSpec
import Derived.Lib.Bytealg
namespace Go.Proofs.YtlkidhfjkgppoaaDoor
open Go.RowKit
set_option linter.unusedVariables false
set_option linter.unusedSimpArgs false

/-! ### Rows of bytes in order -/
theorem cb_self : ∀ a : List UInt8, Lib.compareBytes a a = 0
  | [] => rfl
  | x :: a => by
    unfold Lib.compareBytes
    rw [if_neg (UInt8.lt_irrefl x), if_neg (UInt8.lt_irrefl x)]
    exact cb_self a
theorem cb_eq : ∀ {a b : List UInt8}, Lib.compareBytes a b = 0 → a = b
  | [], [], _ => rfl
  | [], _ :: _, h => by simp [Lib.compareBytes] at h
  | _ :: _, [], h => by simp [Lib.compareBytes] at h
  | x :: a, y :: b, h => by
    unfold Lib.compareBytes at h
    split at h
    · simp at h
    · split at h
      · simp at h
      · have e : x = y := by
          rename_i h1 h2
          exact UInt8.le_antisymm (UInt8.not_lt.1 h2) (UInt8.not_lt.1 h1)
        rw [e, cb_eq h]
theorem cb_neg : ∀ {a b : List UInt8}, Lib.compareBytes a b = - Lib.compareBytes b a
  | [], [] => rfl
  | [], _ :: _ => by simp [Lib.compareBytes]
  | _ :: _, [] => by simp [Lib.compareBytes]
  | x :: a, y :: b => by
    have ih := cb_neg (a := a) (b := b)
    unfold Lib.compareBytes
    by_cases h1 : x < y
    · rw [if_pos h1, if_neg (UInt8.lt_asymm h1), if_pos h1]
    · by_cases h2 : y < x
      · rw [if_neg h1, if_pos h2, if_pos h2]; rfl
      · rw [if_neg h1, if_neg h2, if_neg h2, if_neg h1]; exact ih
theorem cb_trans : ∀ {a b c : List UInt8}, Lib.compareBytes a b < 0 → Lib.compareBytes b c < 0 → Lib.compareBytes a c < 0
  | [], [], _, h, _ => by simp [Lib.compareBytes] at h
  | [], _ :: _, [], _, h => by simp [Lib.compareBytes] at h
  | [], _ :: _, _ :: _, _, _ => by simp [Lib.compareBytes]
  | _ :: _, [], _, h, _ => by simp [Lib.compareBytes] at h
  | _ :: _, _ :: _, [], _, h => by simp [Lib.compareBytes] at h
  | x :: a, y :: b, z :: c, h1, h2 => by
    unfold Lib.compareBytes at h1 h2 ⊢
    by_cases a1 : x < y
    · by_cases b1 : y < z
      · rw [if_pos (UInt8.lt_trans a1 b1)]; decide
      · rw [if_neg b1] at h2
        by_cases b2 : z < y
        · rw [if_pos b2] at h2; simp at h2
        · have e : y = z := UInt8.le_antisymm (UInt8.not_lt.1 b2) (UInt8.not_lt.1 b1)
          rw [← e, if_pos a1]; decide
    · rw [if_neg a1] at h1
      by_cases a2 : y < x
      · rw [if_pos a2] at h1; simp at h1
      · rw [if_neg a2] at h1
        have e : x = y := UInt8.le_antisymm (UInt8.not_lt.1 a2) (UInt8.not_lt.1 a1)
        rw [e]
        by_cases b1 : y < z
        · rw [if_pos b1]; decide
        · rw [if_neg b1] at h2 ⊢
          by_cases b2 : z < y
          · rw [if_pos b2] at h2; simp at h2
          · rw [if_neg b2] at h2 ⊢
            exact cb_trans h1 h2
theorem less_cb : ∀ (a b : List UInt8), Op.bytesLess a b = decide (Lib.compareBytes a b < 0)
  | [], [] => by simp [Op.bytesLess, Lib.compareBytes]
  | [], _ :: _ => by simp [Op.bytesLess, Lib.compareBytes]
  | _ :: _, [] => by simp [Op.bytesLess, Lib.compareBytes]
  | x :: a, y :: b => by
    have ih := less_cb a b
    unfold Op.bytesLess Lib.compareBytes
    by_cases h1 : x < y
    · simp [h1]
    · by_cases h2 : y < x
      · have : x ≠ y := by intro e; rw [e] at h2; exact UInt8.lt_irrefl y h2
        simp [h1, h2, this]
      · have e : x = y := UInt8.le_antisymm (UInt8.not_lt.1 h2) (UInt8.not_lt.1 h1)
        rw [if_neg h1, if_neg h2, ih]
        simp [e]

/-! ### Units -/
structure Unt where
  name : ByteArray
  of : ByteArray
  num : Int
  den : Int
def u0 : Unt := ⟨⟨#[]⟩, ⟨#[]⟩, 0, 0⟩
def uA (us : List Unt) (j : Nat) : Unt := us.getD j u0
def nmU (us : List Unt) (j : Nat) : List UInt8 := (uA us j).name.data.toList
def ofU (us : List Unt) (j : Nat) : List UInt8 := (uA us j).of.data.toList

/-- The first fault among some. -/
def firstF (f : Nat → Int) : Nat → Int
  | 0 => 0
  | n + 1 => if firstF f n = 0 then f n else firstF f n
theorem firstF_cases (f : Nat → Int) (n : Nat) : (firstF f n = 0 ∧ ∀ i, i < n → f i = 0) ∨ ∃ m, m < n ∧ firstF f n = f m ∧ f m ≠ 0 ∧ ∀ i, i < m → f i = 0 := by
  induction n with
  | zero => exact .inl ⟨rfl, fun i h => by omega⟩
  | succ n ih =>
    unfold firstF
    rcases ih with ⟨h1, h2⟩ | ⟨m, hm, h1, h2, h3⟩
    · rw [if_pos h1]
      by_cases h : f n = 0
      · refine .inl ⟨h, fun i hi => ?_⟩
        rcases Nat.lt_or_ge i n with g | g
        · exact h2 i g
        · rw [show i = n by omega]; exact h
      · exact .inr ⟨n, by omega, rfl, h, h2⟩
    · rw [if_neg (by rw [h1]; exact h2)]
      exact .inr ⟨m, by omega, h1, h2, h3⟩

def lowB (c : UInt8) : Bool := decide (97 ≤ c.toNat ∧ c.toNat ≤ 122)
def nameC (c : UInt8) : Bool := lowB c || decide (48 ≤ c.toNat ∧ c.toNat ≤ 57) || c.toNat == 45
def nameB (l : List UInt8) : Bool := decide (1 ≤ l.length ∧ l.length ≤ 40) && lowB (l.headD 0) && l.all nameC

/-- What is wrong with a unit by itself. -/
def uFault (us : List Unt) (i : Nat) : Int :=
  if nameB (nmU us i) = false then 5
  else if 0 < i ∧ ¬ Lib.compareBytes (nmU us (i - 1)) (nmU us i) < 0 then 8
  else if ¬ (1 ≤ (uA us i).num ∧ (uA us i).num ≤ 1000000) ∨ ¬ (1 ≤ (uA us i).den ∧ (uA us i).den ≤ 1000000) then 1
  else if ofU us i = [] ∧ ((uA us i).num ≠ 1 ∨ (uA us i).den ≠ 1) then 3 else 0

def idxU (us : List Unt) (x : List UInt8) : Option Nat := us.findIdx? fun u => u.name.data.toList == x
def nxtU (us : List Unt) (i : Nat) : Option Nat := if ofU us i = [] then none else idxU us (ofU us i)

/-- The chain from a number on; none: it does not end in so many steps. -/
def chainF (nx : Nat → Option Nat) : Nat → Nat → Option (List Nat)
  | 0, i => match nx i with
    | none => some [i]
    | some _ => none
  | f + 1, i => match nx i with
    | none => some [i]
    | some j => (chainF nx f j).map (i :: ·)
def chainU (us : List Unt) (i : Nat) : Option (List Nat) := chainF (nxtU us) us.length i
def chF (us : List Unt) (i : Nat) : Int := match chainU us i with
  | none => 17
  | some c => if 5 < c.length then 2 else 0
def knownU (us : List Unt) (i : Nat) : Bool := (ofU us i).isEmpty || (idxU us (ofU us i)).isSome

/-- What is wrong with units. -/
def chkU (us : List Unt) : Int :=
  if 200 < us.length then 2
  else if firstF (uFault us) us.length ≠ 0 then firstF (uFault us) us.length
  else if firstF (fun i => if knownU us i then 0 else 9) us.length ≠ 0 then 9
  else firstF (chF us) us.length

theorem uA_get {us : List Unt} {j : Nat} (h : j < us.length) : us[j] = uA us j := by
  unfold uA; rw [List.getD_eq_getElem?_getD, List.getElem?_eq_getElem h]; rfl

/-! ### Where a name stands -/
theorem idxU_some {us : List Unt} {x : List UInt8} {i : Nat} (h : idxU us x = some i) : i < us.length ∧ nmU us i = x := by
  unfold idxU at h
  rw [List.findIdx?_eq_some_iff_getElem] at h
  obtain ⟨hi, hp, _⟩ := h
  refine ⟨hi, ?_⟩
  rw [uA_get hi] at hp
  exact beq_iff_eq.1 hp
theorem idxU_none {us : List Unt} {x : List UInt8} (h : idxU us x = none) : ∀ i, i < us.length → nmU us i ≠ x := by
  unfold idxU at h
  rw [List.findIdx?_eq_none_iff] at h
  intro i hi e
  have := h us[i] (List.getElem_mem hi)
  rw [uA_get hi] at this
  simp at this
  exact this (by unfold nmU at e; simpa using e)
/-- Names in order. -/
def SortU (us : List Unt) : Prop := ∀ i j, i < j → j < us.length → Lib.compareBytes (nmU us i) (nmU us j) < 0
theorem sortU_of {us : List Unt} (h : ∀ i, 0 < i → i < us.length → Lib.compareBytes (nmU us (i - 1)) (nmU us i) < 0) : SortU us := by
  intro i j
  induction j with
  | zero => intro h; omega
  | succ j ih =>
    intro h1 h2
    have h3 := h (j + 1) (by omega) h2
    simp only [Nat.add_sub_cancel] at h3
    rcases Nat.lt_or_ge i j with g | g
    · exact cb_trans (ih g (by omega)) h3
    · rw [show i = j by omega]; exact h3
theorem SortU.inj {us : List Unt} (h : SortU us) {i j : Nat} (hi : i < us.length) (hj : j < us.length) (e : nmU us i = nmU us j) : i = j := by
  rcases Nat.lt_trichotomy i j with g | g | g
  · have := h i j g hj; rw [e, cb_self] at this; omega
  · exact g
  · have := h j i g hi; rw [e, cb_self] at this; omega
theorem idxU_of {us : List Unt} (h : SortU us) {x : List UInt8} {i : Nat} (hi : i < us.length) (e : nmU us i = x) : idxU us x = some i := by
  cases h' : idxU us x with
  | none => exact absurd e (idxU_none h' i hi)
  | some j =>
    obtain ⟨hj, e2⟩ := idxU_some h'
    rw [h.inj hj hi (e2.trans e.symm)]

/-! ### Chains -/
def PathU (nx : Nat → Option Nat) : List Nat → Prop
  | [] => False
  | [_] => True
  | i :: j :: r => nx i = some j ∧ PathU nx (j :: r)
theorem PathU.snoc {nx : Nat → Option Nat} {i j : Nat} : ∀ {l : List Nat}, PathU nx (l ++ [i]) → nx i = some j → PathU nx (l ++ [i] ++ [j])
  | [], _, h => ⟨h, trivial⟩
  | [_], h, h2 => ⟨h.1, h2, trivial⟩
  | _ :: b :: l, h, h2 => ⟨h.1, PathU.snoc (l := b :: l) h.2 h2⟩
theorem chainF_path {nx : Nat → Option Nat} : ∀ {l : List Nat} {i e : Nat} {f : Nat}, PathU nx (l ++ [e]) → nx e = none → (l ++ [e]).head? = some i → l.length ≤ f → chainF nx f i = some (l ++ [e])
  | [], i, e, f, _, he, hi, _ => by
    simp at hi; subst hi
    cases f <;> simp [chainF, he]
  | [a], i, e, f, hp, he, hi, hf => by
    simp at hi; subst hi
    cases f with
    | zero => simp at hf
    | succ f =>
      have h1 := hp.1
      simp only [chainF, h1]
      rw [chainF_path (l := []) (e := e) trivial he rfl (Nat.zero_le _)]; rfl
  | a :: b :: l, i, e, f, hp, he, hi, hf => by
    simp at hi; subst hi
    cases f with
    | zero => simp at hf
    | succ f =>
      have h1 := hp.1
      simp only [chainF, h1]
      rw [chainF_path (l := b :: l) (e := e) (i := b) hp.2 he rfl (by simpa using hf)]; rfl
theorem chainF_loop {nx : Nat → Option Nat} {C : List Nat} (h : ∀ x ∈ C, ∃ y ∈ C, nx x = some y) : ∀ (f : Nat) (x : Nat), x ∈ C → chainF nx f x = none := by
  intro f
  induction f with
  | zero =>
    intro x hx
    obtain ⟨y, _, e⟩ := h x hx
    simp [chainF, e]
  | succ f ih =>
    intro x hx
    obtain ⟨y, hy, e⟩ := h x hx
    simp [chainF, e, ih y hy]
theorem path_next {nx : Nat → Option Nat} {e : Nat} : ∀ {l : List Nat}, PathU nx (l ++ [e]) → ∀ x ∈ l, ∃ y ∈ l ++ [e], nx x = some y
  | [], _, x, hx => by simp at hx
  | [a], h, x, hx => by
    simp at hx; subst hx
    exact ⟨e, by simp, h.1⟩
  | a :: b :: l, h, x, hx => by
    rcases List.mem_cons.1 hx with rfl | hx
    · exact ⟨b, by simp, h.1⟩
    · obtain ⟨y, hy, e2⟩ := path_next (l := b :: l) h.2 x hx
      exact ⟨y, List.mem_cons_of_mem _ hy, e2⟩
theorem chainF_back {nx : Nat → Option Nat} {l : List Nat} {e i j : Nat} {f : Nat} (h : PathU nx (l ++ [e])) (he : nx e = some j) (hj : j ∈ l ++ [e]) (hi : i ∈ l ++ [e]) : chainF nx f i = none := by
  refine chainF_loop (C := l ++ [e]) ?_ f i hi
  intro x hx
  rcases List.mem_append.1 hx with g | g
  · exact path_next h x g
  · simp at g; subst g; exact ⟨j, hj, he⟩
theorem nodup_le : ∀ (n : Nat) (l : List Nat), l.Nodup → (∀ x ∈ l, x < n) → l.length ≤ n
  | 0, l, _, h => by
    cases l with
    | nil => simp
    | cons a l => have := h a (by simp); omega
  | n + 1, l, hd, h => by
    by_cases hn : n ∈ l
    · have h1 := nodup_le n (l.erase n) (hd.erase n) (fun x hx => by
        have := hd.mem_erase_iff.1 hx
        have := h x this.2
        omega)
      rw [List.length_erase_of_mem hn] at h1
      omega
    · have := nodup_le n l hd (fun x hx => by
        have := h x hx
        have : x ≠ n := by rintro rfl; exact hn hx
        omega)
      omega
end Go.Proofs.YtlkidhfjkgppoaaDoor
