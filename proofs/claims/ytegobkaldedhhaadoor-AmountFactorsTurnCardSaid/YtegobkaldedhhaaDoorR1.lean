
/- The walks of the reference's numbers: the leaves. -/
import Derived.Test.YtegobkaldedhhaaDoorA3
namespace Go.Proofs.YtegobkaldedhhaaDoor
open Go.RowKit Limb

/-- The length of the slice in a number's cell. -/
def cellLen (w : World) (g : Nat) : Nat := match w.cell? ⟨g, 1, none⟩ with | some (.slice _ k _) => k | _ => 0
theorem cellLen_of {w : World} {g k c : Nat} {x : Value} {A : Option Addr} {T : TypeId} (h : w.heap[g]? = some (.cells #[x, .slice A k c] T (0, 0))) : cellLen w g = k := by
  unfold cellLen
  rw [(box2 h).2.1]

/-- Another block than the row that grew. -/
theorem grown_heap {w w' : World} {B E g n size : Nat} {cs : Array Value} {T : TypeId} {f : Nat × Nat} {v : Value} {xs : List Value} (h : w.heap[g]? = some (.cells cs T f)) (hown : w.ownsRow B E size v n xs) (hg : w.grownBy w' v.ownBlock) (hne : E ≠ T) : w'.heap[g]? = some (.cells cs T f) := by
  refine (hg.block g (lt_heap h) ?_).trans h
  rcases hown.2 with ⟨hv, _⟩ | ⟨g', cap, cur, hv, _, hh, _⟩
  · subst hv; simp [Value.ownBlock]
  · subst hv
    have := heap_ne hh h hne
    simp [Value.ownBlock]
    omega
theorem own_ge {w : World} {B E n size : Nat} {v : Value} {xs : List Value} (hown : w.ownsRow B E size v n xs) : ∀ g, v.ownBlock = some g → B ≤ g := by
  intro g hg
  rcases hown.2 with ⟨hv, _⟩ | ⟨g', cap, cur, hv, hb, hh, _⟩
  · subst hv; simp [Value.ownBlock] at hg
  · subst hv; simp [Value.ownBlock] at hg; omega

theorem own_away {w : World} {B E g i n size : Nat} {cs : Array Value} {T : TypeId} {f : Nat × Nat} {v : Value} {xs : List Value} (hown : w.ownsRow B E size v n xs) (h : w.heap[g]? = some (.cells cs T f)) (hne : E ≠ T) (u : Value) : (w.setCell ⟨g, i, none⟩ u).ownsRow B E size v n xs := by
  refine ⟨hown.1, ?_⟩
  rcases hown.2 with hv | ⟨g', cap, cur, hv, hb, hh, hr⟩
  · exact .inl hv
  · exact .inr ⟨g', cap, cur, hv, hb, heap_far hh (heap_ne hh h hne) _, hr⟩

theorem of_len {os : List Nat} {y z : Nat} (hval : val B6 os + B6 ^ os.length * y = z) (hy : y ≠ 0) (hz : z ≤ 9223372036854775808) : os.length ≤ 3 := by
  rcases Nat.lt_or_ge os.length 4 with h | h
  · omega
  · have h1 : B6 ^ 4 ≤ B6 ^ os.length := Nat.pow_le_pow_right (by decide) h
    have h2 : B6 ^ os.length * 1 ≤ B6 ^ os.length * y := Nat.mul_le_mul_left _ (by omega)
    have h3 : B6 ^ 4 = 1000000000000000000000000 := by decide
    omega
theorem of_step {os : List Nat} {y z t q : Nat} (hval : val B6 os + B6 ^ os.length * y = z) (ht : t = y % 1000000) (hq : q = y / 1000000) : val B6 (os ++ [t]) + B6 ^ (os ++ [t]).length * q = z := by
  subst ht; subst hq
  rw [val_snoc, List.length_append, List.length_singleton, Nat.pow_succ, ← hval, Nat.mul_assoc, Nat.add_assoc, ← Nat.mul_add]
  have : y % 1000000 + B6 * (y / 1000000) = y := by unfold B6; omega
  rw [this]

theorem Tryd.info3 : (Tryd.prog.info? 3).map (fun i => (i.zero, i.size, i.bytes)) = some (some (.int .i64 0), 1, 8) := by kernel_rfl

end Go.Proofs.YtegobkaldedhhaaDoor
