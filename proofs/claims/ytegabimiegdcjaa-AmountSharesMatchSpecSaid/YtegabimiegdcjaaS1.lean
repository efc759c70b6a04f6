
/- Plain facts on the stable sort by merging in place. No program in sight. -/
import Derived.Test.YtegabimiegdcjaaSpec
namespace Go.Proofs.Ytegabimiegdcjaa
namespace Stab
set_option linter.unusedVariables false

/-- What stands at x after two places are exchanged. -/
def swf (f : Nat → Nat) (i j x : Nat) : Nat := if x = j then f i else if x = i then f j else f x
/-- Two runs of i places exchanged. -/
def swr (f : Nat → Nat) (a b i x : Nat) : Nat := if a ≤ x ∧ x < a + i then f (b + (x - a)) else if b ≤ x ∧ x < b + i then f (a + (x - b)) else f x
/-- The places [a, m) and [m, b) exchanged as blocks. -/
def rot (f : Nat → Nat) (a m b x : Nat) : Nat := if a ≤ x ∧ x < a + (b - m) then f (x + (m - a)) else if a + (b - m) ≤ x ∧ x < b then f (x - (b - m)) else f x

theorem swr_zero (f : Nat → Nat) (a b x : Nat) : swr f a b 0 x = f x := by
  unfold swr
  repeat' split
  all_goals first | rfl | (congr 1; omega) | (exfalso; omega)
theorem swr_succ (f : Nat → Nat) {a b i : Nat} (h : a + i < b) (x : Nat) : swf (swr f a b i) (a + i) (b + i) x = swr f a b (i + 1) x := by
  unfold swf swr
  repeat' split
  all_goals first | rfl | (congr 1; omega) | (exfalso; omega)
theorem rot_eq (f : Nat → Nat) {m i : Nat} (hi : i ≤ m) (x : Nat) : swr f (m - i) m i x = rot f (m - i) m (m + i) x := by
  unfold swr rot
  repeat' split
  all_goals first | rfl | (congr 1; omega) | (exfalso; omega)
theorem rot_more (f g : Nat → Nat) {m i j : Nat} (hi : i ≤ m) (hij : j < i) (hg : ∀ x, g x = swr f (m - i) m j x) (x : Nat) : rot g (m - (i - j)) m (m + j) x = rot f (m - i) m (m + j) x := by
  unfold rot
  simp only [hg]
  unfold swr
  repeat' split
  all_goals first | rfl | (congr 1; omega) | (exfalso; omega)
theorem rot_less (f g : Nat → Nat) {m i j : Nat} (hi : i ≤ m) (hij : i < j) (hg : ∀ x, g x = swr f (m - i) (m + j - i) i x) (x : Nat) : rot g (m - i) m (m + (j - i)) x = rot f (m - i) m (m + j) x := by
  unfold rot
  simp only [hg]
  unfold swr
  repeat' split
  all_goals first | rfl | (congr 1; omega) | (exfalso; omega)

/-- Two neighbours exchanged: what moves up, what moves down. -/
theorem rot_up (f g : Nat → Nat) {a k : Nat} (hk : a ≤ k) (hg : ∀ x, g x = rot f a (a + 1) (k + 1) x) (x : Nat) : swf g k (k + 1) x = rot f a (a + 1) (k + 2) x := by
  unfold swf
  simp only [hg]
  unfold rot
  repeat' split
  all_goals first | rfl | (congr 1; omega) | (exfalso; omega)
theorem rot_down (f g : Nat → Nat) {i m k : Nat} (hk : i < k) (hkm : k ≤ m) (hg : ∀ x, g x = rot f k m (m + 1) x) (x : Nat) : swf g k (k - 1) x = rot f (k - 1) m (m + 1) x := by
  unfold swf
  simp only [hg]
  unfold rot
  repeat' split
  all_goals first | rfl | (congr 1; omega) | (exfalso; omega)
theorem rot_none (f : Nat → Nat) (a b x : Nat) : rot f a a b x = f x := by
  unfold rot
  repeat' split
  all_goals first | rfl | (congr 1; omega) | (exfalso; omega)
theorem rot_none' (f : Nat → Nat) (a b x : Nat) : rot f a b b x = f x := by
  unfold rot
  repeat' split
  all_goals first | rfl | (congr 1; omega) | (exfalso; omega)

/-- x stands before y: it has the greater rest, or came first. -/
def prec (r : Nat → Nat) (x y : Nat) : Prop := r y < r x ∨ (r x = r y ∧ x < y)
theorem prec_ge {r : Nat → Nat} {x y : Nat} (h : prec r x y) : r y ≤ r x := by rcases h with h | h <;> omega
/-- The places [a, b) are in order. -/
def Srt (r f : Nat → Nat) (a b : Nat) : Prop := ∀ x y, a ≤ x → x < y → y < b → prec r (f x) (f y)
/-- Of the two runs [a, m) and [m, b) the first bears what came first. -/
def Crs (r f : Nat → Nat) (a m b : Nat) : Prop := ∀ x y, a ≤ x → x < m → m ≤ y → y < b → r (f x) = r (f y) → f x < f y
/-- What a merging of [a, b) comes to. -/
def Mrg (r f g : Nat → Nat) (a b : Nat) : Prop := (∀ x, ¬ (a ≤ x ∧ x < b) → g x = f x) ∧ (∀ x, a ≤ x → x < b → ∃ y, a ≤ y ∧ y < b ∧ g x = f y) ∧ Srt r g a b

theorem Srt.le {r f : Nat → Nat} {a b x y : Nat} (h : Srt r f a b) (h1 : a ≤ x) (h2 : x ≤ y) (h3 : y < b) : r (f y) ≤ r (f x) := by
  rcases Nat.lt_or_ge x y with h4 | h4
  · exact prec_ge (h x y h1 h4 h3)
  · have : x = y := by omega
    subst this; exact Nat.le_refl _
theorem rot_out {f : Nat → Nat} {a m b x : Nat} (hm : a ≤ m) (hb : m ≤ b) (h : ¬ (a ≤ x ∧ x < b)) : rot f a m b x = f x := by
  unfold rot
  rw [if_neg (by omega), if_neg (by omega)]
theorem rot_l {f : Nat → Nat} {a m b x : Nat} (h : a ≤ x ∧ x < a + (b - m)) : rot f a m b x = f (x + (m - a)) := if_pos h
theorem rot_r {f : Nat → Nat} {a m b x : Nat} (h : a + (b - m) ≤ x ∧ x < b) : rot f a m b x = f (x - (b - m)) := by
  unfold rot
  rw [if_neg (by omega), if_pos h]
theorem rot_in {f : Nat → Nat} {s m e a b : Nat} (hs : a ≤ s) (hm : s ≤ m) (he : m ≤ e) (hb : e ≤ b) (x : Nat) (h1 : a ≤ x) (h2 : x < b) : ∃ y, a ≤ y ∧ y < b ∧ rot f s m e x = f y := by
  unfold rot
  split
  · exact ⟨_, by omega, by omega, rfl⟩
  · split
    · exact ⟨_, by omega, by omega, rfl⟩
    · exact ⟨x, h1, h2, rfl⟩

section
variable {r f : Nat → Nat} {a m b s e : Nat}
/-- The two runs behind the exchange of the middle: in order, each before the other. -/
theorem rot_srt1 (h1 : Srt r f a m) (hs : a ≤ s) (hm : s ≤ m) (he : m ≤ e) : Srt r (rot f s m e) a s := by
  intro x y hx hxy hy
  rw [rot_out hm he (by omega), rot_out hm he (by omega)]
  exact h1 x y hx hxy (by omega)
theorem rot_srt2 (h2 : Srt r f m b) (hm : s ≤ m) (he : m ≤ e) (hb : e ≤ b) : Srt r (rot f s m e) s (s + (e - m)) := by
  intro x y hx hxy hy
  rw [rot_l (by omega), rot_l (by omega)]
  exact h2 _ _ (by omega) (by omega) (by omega)
theorem rot_srt3 (h1 : Srt r f a m) (hs : a ≤ s) (hm : s ≤ m) (he : m ≤ e) : Srt r (rot f s m e) (s + (e - m)) e := by
  intro x y hx hxy hy
  rw [rot_r (by omega), rot_r (by omega)]
  exact h1 _ _ (by omega) (by omega) (by omega)
theorem rot_srt4 (h2 : Srt r f m b) (hm : s ≤ m) (he : m ≤ e) : Srt r (rot f s m e) e b := by
  intro x y hx hxy hy
  rw [rot_out hm he (by omega), rot_out hm he (by omega)]
  exact h2 x y (by omega) hxy hy
theorem rot_crs1 (hc : Crs r f a m b) (hs : a ≤ s) (hm : s ≤ m) (he : m ≤ e) (hb : e ≤ b) : Crs r (rot f s m e) a s (s + (e - m)) := by
  intro x y hx hxy hy hyb
  rw [rot_out hm he (by omega), rot_l (by omega)]
  exact hc _ _ (by omega) (by omega) (by omega) (by omega)
theorem rot_crs2 (hc : Crs r f a m b) (hs : a ≤ s) (hm : s ≤ m) (he : m ≤ e) : Crs r (rot f s m e) (s + (e - m)) e b := by
  intro x y hx hxy hy hyb
  rw [rot_r (by omega), rot_out hm he (by omega)]
  exact hc _ _ (by omega) (by omega) (by omega) (by omega)
/-- All of the first part before all of the second. -/
theorem rot_before (h1 : Srt r f a m) (h2 : Srt r f m b) (hc : Crs r f a m b) (hs : a ≤ s) (hm : s ≤ m) (he : m ≤ e) (hb : e ≤ b)
    (c1 : s < m → m < e → r (f s) < r (f (e - 1))) (c2 : a < s → e < b → r (f e) ≤ r (f (s - 1))) :
    ∀ x y, a ≤ x → x < s + (e - m) → s + (e - m) ≤ y → y < b → prec r (rot f s m e x) (rot f s m e y) := by
  intro x y hx hxm hy hyb
  rcases Nat.lt_or_ge x s with hxs | hxs
  · rw [rot_out hm he (by omega : ¬ (s ≤ x ∧ x < e))]
    rcases Nat.lt_or_ge y e with hye | hye
    · rw [rot_r (by omega)]
      exact h1 _ _ hx (by omega) (by omega)
    · rw [rot_out hm he (by omega)]
      have k1 := c2 (by omega) (by omega)
      have k2 := h1.le (x := x) (y := s - 1) hx (by omega) (by omega)
      have k3 := h2.le (x := e) (y := y) he hye hyb
      rcases Nat.lt_or_ge (r (f y)) (r (f x)) with h | h
      · exact .inl h
      · exact .inr ⟨by omega, hc x y hx (by omega) (by omega) hyb (by omega)⟩
  · rw [rot_l (by omega : s ≤ x ∧ x < s + (e - m))]
    rcases Nat.lt_or_ge y e with hye | hye
    · rw [rot_r (by omega)]
      have k1 := c1 (by omega) (by omega)
      have k2 := h1.le (x := s) (y := y - (e - m)) (by omega) (by omega) (by omega)
      have k3 := h2.le (x := x + (m - s)) (y := e - 1) (by omega) (by omega) (by omega)
      exact .inl (by omega)
    · rw [rot_out hm he (by omega)]
      exact h2 _ _ (by omega) (by omega) hyb
end
/-- Two parts, each in order, the first before the second: in order. -/
theorem Srt.join {r f : Nat → Nat} {a m b : Nat} (h1 : Srt r f a m) (h2 : Srt r f m b) (h : ∀ x y, a ≤ x → x < m → m ≤ y → y < b → prec r (f x) (f y)) : Srt r f a b := by
  intro x y hx hxy hy
  rcases Nat.lt_or_ge y m with h3 | h3
  · exact h1 x y hx hxy h3
  · rcases Nat.lt_or_ge x m with h4 | h4
    · exact h x y hx h4 h3 hy
    · exact h2 x y h4 hxy hy
/-- A merging of each part behind the exchange of the middle is a merging. -/
theorem Mrg.both {r f g h k : Nat → Nat} {a m b s e d : Nat} (hs : a ≤ s) (hm : s ≤ m) (he : m ≤ e) (hb : e ≤ b) (hg : ∀ x, g x = rot f s m e x) (had : a ≤ d) (hdb : d ≤ b)
    (m1 : Mrg r g h a d) (m2 : Mrg r h k d b) (hp : ∀ x y, a ≤ x → x < d → d ≤ y → y < b → prec r (g x) (g y)) : Mrg r f k a b := by
  refine ⟨fun x hx => ?_, fun x h1 h2 => ?_, ?_⟩
  · rw [m2.1 x (by omega), m1.1 x (by omega), hg, rot_out hm he (by omega)]
  · have key : ∃ y, a ≤ y ∧ y < b ∧ k x = g y := by
      rcases Nat.lt_or_ge x d with h3 | h3
      · obtain ⟨y, k1, k2, k3⟩ := m1.2.1 x h1 h3
        exact ⟨y, k1, by omega, by rw [m2.1 x (by omega), k3]⟩
      · obtain ⟨y, k1, k2, k3⟩ := m2.2.1 x h3 h2
        exact ⟨y, by omega, k2, by rw [k3, m1.1 y (by omega)]⟩
    obtain ⟨y, k1, k2, k3⟩ := key
    obtain ⟨z, l1, l2, l3⟩ := rot_in (f := f) hs hm he hb y k1 k2
    exact ⟨z, l1, l2, by rw [k3, hg, l3]⟩
  · refine Srt.join (m := d) ?_ m2.2.2 ?_
    · intro x y hx hxy hy
      rw [m2.1 x (by omega), m2.1 y (by omega)]
      exact m1.2.2 x y hx hxy hy
    · intro x y hx hxd hy hyb
      obtain ⟨x', k1, k2, k3⟩ := m1.2.1 x hx hxd
      obtain ⟨y', l1, l2, l3⟩ := m2.2.1 y hy hyb
      rw [m2.1 x (by omega), k3, l3, m1.1 y' (by omega)]
      exact hp x' y' k1 k2 l1 l2
theorem Mrg.same {r f : Nat → Nat} {a b : Nat} (h : Srt r f a b) : Mrg r f f a b := ⟨fun _ _ => rfl, fun x h1 h2 => ⟨x, h1, h2, rfl⟩, h⟩
theorem Mrg.congr {r f g k : Nat → Nat} {a b : Nat} (h : Mrg r f k a b) (hg : ∀ x, g x = f x) : Mrg r g k a b :=
  ⟨fun x hx => by rw [hg]; exact h.1 x hx, fun x h1 h2 => by obtain ⟨y, k1, k2, k3⟩ := h.2.1 x h1 h2; exact ⟨y, k1, k2, by rw [hg]; exact k3⟩, h.2.2⟩
theorem Srt.of_eq {r f g : Nat → Nat} {a b : Nat} (h : Srt r f a b) (hg : ∀ x, a ≤ x → x < b → g x = f x) : Srt r g a b := fun x y h1 h2 h3 => by
  rw [hg x h1 (by omega), hg y (by omega) h3]; exact h x y h1 h2 h3
theorem Crs.of_eq {r f g : Nat → Nat} {a m b : Nat} (h : Crs r f a m b) (hmb : m ≤ b) (ham : a ≤ m) (hg : ∀ x, a ≤ x → x < b → g x = f x) : Crs r g a m b := fun x y h1 h2 h3 h4 => by
  rw [hg x h1 (by omega), hg y (by omega) h4]; exact h x y h1 h2 h3 h4

end Stab
end Go.Proofs.Ytegabimiegdcjaa
