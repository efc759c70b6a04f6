
/- The walk of package whole: By. -/
import Derived.Test.YtlkidhfjkgppoaaDoorW6
namespace Go.Proofs.YtlkidhfjkgppoaaDoor
open Go.RowKit Limb

theorem boxes4 (w : World) (x0 x1 y0 y1 z0 z1 u0 u1 : Value) (T U V X : TypeId) : ∀ w3, (((w.alloc (.cells #[x0, x1] T)).alloc (.cells #[y0, y1] U)).alloc (.cells #[z0, z1] V)).alloc (.cells #[u0, u1] X) = w3 →
    w3.heap[w.heap.size]? = some (.cells #[x0, x1] T (0, 0)) ∧ w3.heap[w.heap.size + 1]? = some (.cells #[y0, y1] U (0, 0)) ∧ w3.heap[w.heap.size + 1 + 1]? = some (.cells #[z0, z1] V (0, 0)) ∧ w3.heap[w.heap.size + 1 + 1 + 1]? = some (.cells #[u0, u1] X (0, 0)) ∧ Below w.heap.size w w3 := by
  intro w3 hw
  subst hw
  obtain ⟨h1, h2, h3, h4⟩ := boxes3 w x0 x1 y0 y1 z0 z1 T U V _ rfl
  exact ⟨heap_old h1 _, heap_old h2 _, heap_old h3 _, heap_new _ _ (by simp), h4.alloc h4.size _⟩

/-- What a call that makes two large numbers comes to. -/
def Makes2 (K : IntKind) (E : TypeId) (b : Nat) (w : World) (x y : Int) (e : Ending) (w' : World) : Prop :=
  ∃ s A n c t B k d, e = .returned (.tuple #[.agg #[.bool s, .slice A n c], .agg #[.bool t, .slice B k d]]) ∧ Big K E b w' s A n c x ∧ Big K E b w' t B k d y ∧ Below w.heap.size w w'

theorem set_bit32 {q : List Nat} {i t : Nat} (h : Digs B32 q) (hQ : val B32 q = 2 ^ (i + 1) * t) (hi : i / 32 < q.length) :
    val B32 (q.set (i / 32) (dg q (i / 32) ||| 2 ^ (i % 32))) = 2 ^ i * (2 * t + 1) := set_bit (q := q) h hQ hi
theorem val_bit32 {l : List Nat} (h : Digs B32 l) (i : Nat) : dg l (i / 32) / 2 ^ (i % 32) % 2 = val B32 l / 2 ^ i % 2 := val_bit (l := l) h i

/-- The bit that is put under the rest. -/
theorem rest_bit {l rs os : List Nat} {j : Nat} (gl : Digs B32 l) (gos : Digs B32 os) (hval : val B32 os = val B32 rs + val B32 rs) :
    bits .or .u32 ((dg os 0 : Nat) : Int) (bits .and .u32 (((dg l (j / 32) : Nat) : Int) / 2 ^ (j % 32)) 1) = ((dg os 0 + val B32 l / 2 ^ j % 2 : Nat) : Int) := by
  have h1 : dg l (j / 32) < 4294967296 := dg_lt gl (by decide) _
  have h2 : dg os 0 < 4294967296 := dg_lt gos (by decide) _
  have e0 : ((dg l (j / 32) : Nat) : Int) / 2 ^ (j % 32) = ((dg l (j / 32) / 2 ^ (j % 32) : Nat) : Int) := by
    rw [Int.natCast_ediv, Int.natCast_pow]; rfl
  have h3 : dg l (j / 32) / 2 ^ (j % 32) < 4294967296 := Nat.lt_of_le_of_lt (Nat.div_le_self _ _) h1
  rw [e0]
  have e1 := u32_and_nat (dg l (j / 32) / 2 ^ (j % 32)) 1 h3 (by omega)
  rw [Nat.and_one_is_mod, val_bit32 gl] at e1
  have e1' : bits .and .u32 ((dg l (j / 32) / 2 ^ (j % 32) : Nat) : Int) 1 = ((val B32 l / 2 ^ j % 2 : Nat) : Int) := e1
  rw [e1', u32_or_nat _ _ h2 (by omega)]
  have h4 : dg os 0 % 2 = 0 := by
    have := val_digit (b := B32) (by decide) gos 0
    rw [Nat.pow_zero, Nat.div_one] at this
    have h5 : dg os 0 = val B32 os % B32 := this.symm
    rw [h5, hval]
    unfold B32
    omega
  rw [or_bit h4 (by omega)]
theorem val_set0 {os : List Nat} {c : Nat} (h : 0 < os.length) : val B32 (os.set 0 (dg os 0 + c)) = val B32 os + c := by
  have := val_set B32 os 0 (dg os 0 + c) h
  rw [Nat.pow_zero, Nat.one_mul, Nat.one_mul] at this
  have e : os.getD 0 0 = dg os 0 := rfl
  omega

/-- The bit of the quotient. -/
theorem quot_bit {q : List Nat} {i t : Nat} (h : Digs B32 q) (_hQ : val B32 q = 2 ^ (i + 1) * t) :
    bits .or .u32 ((dg q (i / 32) : Nat) : Int) (2 ^ (i % 32) % 4294967296) = ((dg q (i / 32) ||| 2 ^ (i % 32) : Nat) : Int) ∧ dg q (i / 32) ||| 2 ^ (i % 32) < 4294967296 := by
  have h1 : dg q (i / 32) < 4294967296 := dg_lt h (by decide) _
  have h2 : 2 ^ (i % 32) < 4294967296 := Nat.lt_of_lt_of_le (Nat.pow_lt_pow_right (a := 2) (by omega) (Nat.mod_lt i (by omega : 0 < 32))) (by decide)
  have e : (2 : Int) ^ (i % 32) % 4294967296 = ((2 ^ (i % 32) : Nat) : Int) := by
    have e1 : (2 : Int) ^ (i % 32) = ((2 ^ (i % 32) : Nat) : Int) := by rw [Int.natCast_pow]; rfl
    rw [e1]; generalize 2 ^ (i % 32) = X at *; omega
  rw [e]
  exact ⟨u32_or_nat _ _ h1 h2, or_lt h1 (Nat.mod_lt i (by omega))⟩

theorem by_less {A b T r q0 bit j Q : Nat} (h : A / 2 ^ (j + 1) = T * b + r ∧ Q = 2 ^ (j + 1) * T) (hb : bit = A / 2 ^ j % 2) (hr : q0 = 2 * r + bit) : A / 2 ^ j = 2 * T * b + q0 ∧ Q = 2 ^ j * (2 * T) := by
  subst hr; subst hb
  exact div_step h.1 h.2
theorem by_more {A b T r q0 bit j Q : Nat} (h : A / 2 ^ (j + 1) = T * b + r ∧ Q = 2 ^ (j + 1) * T) (hb : bit = A / 2 ^ j % 2) (hr : q0 = 2 * r + bit) (hle : b ≤ q0) : A / 2 ^ j = (2 * T + 1) * b + (q0 - b) := by
  have h1 := (by_less h hb hr).1
  rw [Nat.add_mul, Nat.one_mul]
  omega
theorem by_end {A b T r : Nat} (h : A / 2 ^ 0 = T * b + r) (hr : r < b) : A / b = T ∧ A % b = r := by
  rw [Nat.pow_zero, Nat.div_one] at h
  subst h
  constructor
  · rw [Nat.mul_comm, Nat.mul_add_div (by omega), Nat.div_eq_of_lt hr, Nat.add_zero]
  · rw [Nat.mul_comm, Nat.mul_add_mod, Nat.mod_eq_of_lt hr]
theorem by_start {l : List Nat} {n b : Nat} (gl : Digs B32 l) (hl : l.length = n) : val B32 l / 2 ^ (n * 32) = 0 * b + val B32 [] := by
  have h := val_lt gl
  rw [hl] at h
  have e : B32 ^ n = 2 ^ (n * 32) := by
    rw [Nat.mul_comm, Nat.pow_mul]; rfl
  rw [e] at h
  rw [Nat.div_eq_of_lt h]; simp [val]

end Go.Proofs.YtlkidhfjkgppoaaDoor
