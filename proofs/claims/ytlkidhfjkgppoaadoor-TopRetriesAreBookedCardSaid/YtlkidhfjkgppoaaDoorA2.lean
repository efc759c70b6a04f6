
/- The walks of package amount: Value, Made, Compare, Sum. -/
import Derived.Test.YtlkidhfjkgppoaaDoorA1
namespace Go.Proofs.YtlkidhfjkgppoaaDoor
open Go.RowKit Limb

theorem made_fit (z p : Int) (h : z.natAbs ≤ 1000000000000000) : made z p = (z, p, 0) ∧ fitV z 1000000000000000 = z ∧ fitB z 1000000000000000 = true := by
  unfold made fitV fitB; simp [h]
theorem made_not (z p : Int) (h : ¬ z.natAbs ≤ 1000000000000000) : made z p = (0, 0, 1) ∧ fitV z 1000000000000000 = 0 ∧ fitB z 1000000000000000 = false := by
  unfold made fitV fitB; simp [h]

set_option maxHeartbeats 1000000 in
theorem mk_c (w : World) {s : Bool} {A : Option Addr} {n c : Nat} {z : Int} (p : Int) (h : Big .u32 92 B32 w s A n c z) :
    Calls Tryd.prog 32 #[.agg #[.bool s, .slice A n c], .int .i64 p] w (RetD (made z p) w) := by
  by_cases hz : z.natAbs ≤ 1000000000000000
  · obtain ⟨e1, e2, e3⟩ := made_fit z p hz
    rw [e1]
    have E2 := Lib.hid e2; have E3 := Lib.hid e3; clear e1 e2 e3
    go_enter Tryd.func32, Tryd.ntmps32
    go_wp2_with fail
    refine (int_c _ 1000000000000000 ((h.alloc _).alloc _) (by omega)).mono ?_
    rintro e w1 ⟨rfl, hb⟩
    rw [E2.out, E3.out]
    have hB := heap_below (heap_new (w.alloc _) _ rfl) hb
    simp only [World.size_alloc] at hB
    obtain ⟨g0, g1, g2, g3, g4⟩ := box2 hB
    go_wp2
    refine bodyPost_ret (v := .tuple #[.agg #[.int .i64 z, .int .i64 p], .int .i64 0]) (by simp [results, Tryd.results32, go_sem, g0, g1]) rfl ⟨rfl, ?_⟩
    go_grown
    exact below_then hb (by go_grown) (by simp only [World.size_alloc]; omega)
  · obtain ⟨e1, e2, e3⟩ := made_not z p hz
    rw [e1]
    have E2 := Lib.hid e2; have E3 := Lib.hid e3; clear e1 e2 e3
    go_enter Tryd.func32, Tryd.ntmps32
    go_wp2_with fail
    refine (int_c _ 1000000000000000 ((h.alloc _).alloc _) (by omega)).mono ?_
    rintro e w1 ⟨rfl, hb⟩
    rw [E2.out, E3.out]
    have hB := heap_below (heap_new (w.alloc _) _ rfl) hb
    simp only [World.size_alloc] at hB
    obtain ⟨g0, g1, g2, g3, g4⟩ := box2 hB
    go_wp2
    refine bodyPost_ret (v := .tuple #[.agg #[.int .i64 0, .int .i64 0], .int .i64 1]) (by simp [results, Tryd.results32, go_sem, g0, g1]) rfl ⟨rfl, ?_⟩
    go_grown
    exact below_then hb (by go_grown) (by simp only [World.size_alloc]; omega)

def RetIF (n f : Int) (w : World) (e : Ending) (w' : World) : Prop := e = .returned (.tuple #[.int .i64 n, .int .i64 f]) ∧ Below w.heap.size w w'

end Go.Proofs.YtlkidhfjkgppoaaDoor
