
/- The walks that whole.Text leans on: Clone of digits, Div32, Reverse of bytes. -/
import Derived.Test.YtmeefinnefanpaaDoorA8
import Derived.WalkSpells
import Derived.Deep.QuietTactic
import Derived.BigQuiet
import Derived.IntWalk
namespace Go.Proofs.YtmeefinnefanpaaDoor
open Go.RowKit Limb
set_option linter.unusedVariables false
set_option linter.unusedSimpArgs false

theorem digV_news {w : World} {K : IntKind} {E : TypeId} {g n : Nat} {l : List Nat} (h : Dig w K E (some ⟨g, 0, none⟩) n l) : ∀ j u, (digV K l)[j]? = some u → w.cell? ((⟨g, 0, none⟩ : Addr).add j) = some u := by
  intro j u hj
  have hlt : j < l.length := by
    rcases Nat.lt_or_ge j (digV K l).length with h1 | h1
    · rwa [digV_length] at h1
    · rw [List.getElem?_eq_none h1] at hj; cases hj
  have hn := h.1
  obtain ⟨g', e, _, hc⟩ := h.at_ (by omega)
  injection e with e
  injection e with e1 e2
  subst e1
  have hadd : (⟨g, 0, none⟩ : Addr).add j = ⟨g, j, none⟩ := by unfold Addr.add; split <;> simp_all
  rw [hadd, hc j (by omega), ← hj, digV_get K hlt]

def Cloned32 (l : List Nat) (n : Nat) (w : World) (e : Ending) (w' : World) : Prop :=
  ∃ A c, e = .returned (.slice A n c) ∧ w'.ownsRow w.heap.size 71 1 (.slice A n c) n (digV .u32 l) ∧ Below w.heap.size w w'

theorem shl_or (r x : Nat) (hr : r < 4294967296) (hx : x < 4294967296) : bits .or .u64 ((r : Int) * 4294967296) (x : Int) = ((r * 4294967296 + x : Nat) : Int) := by
  have e : (r : Int) * 4294967296 = ((r * 4294967296 : Nat) : Int) := by rw [Int.natCast_mul]; rfl
  have h3 := u64_or_nat (r * 4294967296) x (by omega) (by omega)
  have h4 := Nat.two_pow_add_eq_or_of_lt (i := 32) (b := x) (by omega) r
  have e2 : 2 ^ 32 * r = r * 4294967296 := by rw [Nat.mul_comm]
  rw [e2] at h4
  rw [e, h3, ← h4]

theorem digV_swap (l : List Nat) (i j x y : Nat) : digV .u8 ((l.set i x).set j y) = ((digV .u8 l).set i (.int .u8 (x : Int))).set j (.int .u8 (y : Int)) := by rw [digV_set, digV_set]

end Go.Proofs.YtmeefinnefanpaaDoor
