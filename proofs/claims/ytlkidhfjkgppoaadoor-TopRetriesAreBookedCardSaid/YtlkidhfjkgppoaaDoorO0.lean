
/- Plain: what becomes of jobs that are sent again and again. -/
import Derived.Lib.Hide
import Derived.Test.YtlkidhfjkgppoaaDoorProg
namespace Go.Proofs.YtlkidhfjkgppoaaDoor
set_option linter.unusedVariables false
set_option linter.unusedSimpArgs false

structure Otg where
  lane : ByteArray
  fr : Int
  to : Int
structure Jb where
  lane : ByteArray
  at_ : Int
structure Snt where
  tries : Int
  done : Int
  gave : Int
deriving DecidableEq
def otgB (l : ByteArray) (t : Int) (o : Otg) : Bool := decide (o.lane = l) && decide (o.fr ≤ t) && decide (t < o.to)
def ansB (os : List Otg) (l : ByteArray) (t : Int) : Bool := !os.any (otgB l t)
def waitsF (K M : Int) : Nat → Int → List Int
  | 0, _ => []
  | n + 1, F => F :: waitsF K M n (min (F * K) M)
theorem waitsF_len (K M : Int) : ∀ n F, (waitsF K M n F).length = n
  | 0, _ => rfl
  | n + 1, F => by rw [waitsF, List.length_cons, waitsF_len K M n]
theorem waitsF_rng {K M : Int} (hK : 1 ≤ K) (hM : 1 ≤ M) : ∀ n F, 1 ≤ F → F ≤ M → ∀ x ∈ waitsF K M n F, 1 ≤ x ∧ x ≤ M
  | 0, _, _, _, x, h => by cases h
  | n + 1, F, h1, h2, x, h => by
    rcases List.mem_cons.1 h with rfl | h
    · exact ⟨h1, h2⟩
    · have : 1 ≤ F * K := by
        have := Int.mul_le_mul h1 hK (by decide) (by omega)
        omega
      exact waitsF_rng hK hM n _ (by omega) (by omega) x h
def sendL (os : List Otg) (l : ByteArray) : List Int → Int → Int → Option Snt
  | [], t, k => if 2000000000000000 < t then none else if ansB os l t then some ⟨k + 1, t, -1⟩ else some ⟨k + 1, -1, t⟩
  | x :: ws, t, k => if 2000000000000000 < t then none else if ansB os l t then some ⟨k + 1, t, -1⟩ else sendL os l ws (t + x) (k + 1)
/-- What a sending that was told of is like. -/
def sentOk (s : Snt) (t lo hi : Int) : Prop := lo ≤ s.tries ∧ s.tries ≤ hi ∧ ((0 ≤ s.done ∧ t ≤ s.done ∧ s.done ≤ 2000000000000000 ∧ s.gave = -1) ∨ (s.done = -1 ∧ 0 ≤ s.gave ∧ t ≤ s.gave ∧ s.gave ≤ 2000000000000000))
theorem sentOk.mono {s : Snt} {t t' lo lo' hi hi' : Int} (h : sentOk s t lo hi) (ht : t' ≤ t) (hl : lo' ≤ lo) (hh : hi ≤ hi') : sentOk s t' lo' hi' := by
  obtain ⟨h1, h2, h3⟩ := h
  refine ⟨by omega, by omega, ?_⟩
  rcases h3 with h3 | h3
  · exact .inl (by omega)
  · exact .inr (by omega)
theorem sendL_ok {os : List Otg} {l : ByteArray} : ∀ {ws : List Int} {t k : Int} {s : Snt}, (∀ x ∈ ws, 0 ≤ x) → 0 ≤ t → sendL os l ws t k = some s → sentOk s t (k + 1) (k + 1 + ws.length)
  | [], t, k, s, hw, ht, h => by
    unfold sendL at h
    split at h
    · cases h
    · split at h
      · cases h; refine ⟨Int.le_refl _, by simp, .inl ⟨ht, Int.le_refl _, by simp; omega, rfl⟩⟩
      · cases h; refine ⟨Int.le_refl _, by simp, .inr ⟨rfl, ht, Int.le_refl _, by simp; omega⟩⟩
  | x :: ws, t, k, s, hw, ht, h => by
    unfold sendL at h
    split at h
    · cases h
    · split at h
      · cases h; refine ⟨Int.le_refl _, by simp; omega, .inl ⟨ht, Int.le_refl _, by simp; omega, rfl⟩⟩
      · have hx := hw x (by simp)
        obtain ⟨h1, h2, h3⟩ := sendL_ok (fun y hy => hw y (by simp [hy])) (by omega) h
        refine ⟨by omega, by simp; omega, ?_⟩
        rcases h3 with h3 | h3
        · exact .inl (by omega)
        · exact .inr (by omega)
def upd (f : ByteArray → Int) (l : ByteArray) (v : Int) : ByteArray → Int := fun x => if x = l then v else f x
def startL (io : Bool) (f : ByteArray → Int) (j : Jb) : Int := if io then max j.at_ (f j.lane) else j.at_
def freed (f : ByteArray → Int) (j : Jb) (s : Snt) : Int := max (max (f j.lane) s.done) s.gave
def outL (os : List Otg) (ws : List Int) (io : Bool) : List Jb → (ByteArray → Int) → Option (List Snt)
  | [], _ => some []
  | j :: js, f => match sendL os j.lane ws (startL io f j) 0 with
    | none => none
    | some s => match outL os ws io js (upd f j.lane (freed f j s)) with
      | none => none
      | some r => some (s :: r)
theorem outL_ok {os : List Otg} {ws : List Int} {io : Bool} (hw : ∀ x ∈ ws, 0 ≤ x) : ∀ {js : List Jb} {f : ByteArray → Int} {r : List Snt}, (∀ j ∈ js, 0 ≤ j.at_) → outL os ws io js f = some r →
    r.length = js.length ∧ ∀ i (h : i < r.length) (h' : i < js.length), sentOk r[i] js[i].at_ 1 (1 + ws.length)
  | [], f, r, hj, h => by cases h; exact ⟨rfl, fun i h => by simp at h⟩
  | j :: js, f, r, hj, h => by
    unfold outL at h
    split at h
    · cases h
    · next s hs =>
      split at h
      · cases h
      · next r' hr =>
        cases h
        obtain ⟨h1, h2⟩ := outL_ok hw (fun x hx => hj x (by simp [hx])) hr
        refine ⟨by simp [h1], fun i hi hi' => ?_⟩
        cases i with
        | zero =>
          have hst : j.at_ ≤ startL io f j := by unfold startL; split <;> omega
          exact (sendL_ok hw (by have := hj j (by simp); omega) hs).mono hst (by omega) (by omega)
        | succ i => simpa using h2 i (by simpa using hi) (by simpa using hi')
/-- The jobs that wait at a time. -/
def pendF (time : Int) (js : List Jb) (r : List Snt) (i : Nat) : Bool :=
  match js[i]?, r[i]? with
  | some j, some s => decide (j.at_ ≤ time) && decide (time < max s.done s.gave)
  | _, _ => false
def pendL (time : Int) (js : List Jb) (r : List Snt) : Nat → List Int
  | 0 => []
  | n + 1 => pendL time js r n ++ if pendF time js r n then [(n : Int)] else []
theorem pend_has {time : Int} {js : List Jb} {r : List Snt} : ∀ (n i : Nat), ((i : Int) ∈ pendL time js r n) ↔ i < n ∧ pendF time js r i = true
  | 0, i => by simp [pendL]
  | n + 1, i => by
    unfold pendL
    rw [List.mem_append, pend_has n i]
    by_cases h : pendF time js r n = true
    · rw [if_pos h, List.mem_singleton]
      constructor
      · rintro (⟨h1, h2⟩ | h1)
        · exact ⟨by omega, h2⟩
        · obtain rfl : i = n := by omega
          exact ⟨by omega, h⟩
      · rintro ⟨h1, h2⟩
        rcases Nat.lt_or_ge i n with h3 | h3
        · exact .inl ⟨h3, h2⟩
        · exact .inr (by omega)
    · rw [if_neg h]
      simp only [List.not_mem_nil, or_false]
      constructor
      · rintro ⟨h1, h2⟩; exact ⟨by omega, h2⟩
      · rintro ⟨h1, h2⟩
        refine ⟨?_, h2⟩
        rcases Nat.lt_or_ge i n with h3 | h3
        · exact h3
        · obtain rfl : i = n := by omega
          exact absurd h2 h
/-- What the law asks of a sending: done or given up by the moment. -/
def overB (s : Snt) (m : Int) : Bool := decide (0 ≤ s.done) && decide (s.done ≤ m) || decide (0 ≤ s.gave) && decide (s.gave ≤ m)
theorem over_pend {s : Snt} {t lo hi m : Int} (h : sentOk s t lo hi) (hm : 0 ≤ m) : decide (m < max s.done s.gave) = !overB s m := by
  obtain ⟨-, -, h⟩ := h
  unfold overB
  rw [Bool.eq_iff_iff]
  simp only [decide_eq_true_eq, Bool.not_eq_true', Bool.or_eq_false_iff, Bool.and_eq_false_iff, decide_eq_false_iff_not]
  omega
end Go.Proofs.YtlkidhfjkgppoaaDoor
