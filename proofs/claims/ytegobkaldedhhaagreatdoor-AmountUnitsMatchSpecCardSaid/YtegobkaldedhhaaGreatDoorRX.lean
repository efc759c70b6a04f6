
/- Words for a region that makes two boxes among its calls. -/
import Derived.Test.YtegobkaldedhhaaGreatDoorMem
namespace Go.Proofs.YtegobkaldedhhaaGreatDoor
open Go.RowKit Limb

theorem cell_heap {w : World} {g : Nat} {x y : Value} {T : TypeId} (h : w.heap[g]? = some (.cells #[x, y] T (0, 0))) : w.cell? ⟨g, 0, none⟩ = some x ∧ w.cell? ⟨g, 1, none⟩ = some y := ⟨(box2 h).1, (box2 h).2.1⟩
theorem heap_store2 {w : World} {g : Nat} {x y u v : Value} {T : TypeId} (h : w.heap[g]? = some (.cells #[x, y] T (0, 0))) : ((w.setCell ⟨g, 0, none⟩ u).setCell ⟨g, 1, none⟩ v).heap[g]? = some (.cells #[u, v] T (0, 0)) := by
  simpa using heap_set (heap_set h 0 u) 1 v
theorem heap_far2 {w : World} {g k : Nat} {u v : Value} {o : Obj} (h : w.heap[g]? = some o) (hne : g ≠ k) : ((w.setCell ⟨k, 0, none⟩ u).setCell ⟨k, 1, none⟩ v).heap[g]? = some o :=
  heap_far (heap_far h (p := ⟨k, 0, none⟩) hne u) (p := ⟨k, 1, none⟩) hne v
theorem heap_drew {w : World} {g : Nat} {o : Obj} (h : w.heap[g]? = some o) : w.drew.heap[g]? = some o := h
theorem news1 {w w' : World} {o : Obj} (h : Below (w.alloc o).heap.size (w.alloc o) w') : w'.heap[w.heap.size]? = some o := heap_below (heap_new w o rfl) h
theorem news1d {w w' : World} {o : Obj} (h : Below (w.alloc o).drew.heap.size (w.alloc o).drew w') : w'.heap[w.heap.size]? = some o := heap_below (w := (w.alloc o).drew) (heap_new w o rfl) h
theorem news2 {w w' : World} {o p : Obj} (h : Below ((w.alloc o).alloc p).heap.size ((w.alloc o).alloc p) w') : w'.heap[w.heap.size]? = some o ∧ w'.heap[w.heap.size + 1]? = some p := ⟨heap_below (heap_old (heap_new w o rfl) p) h, heap_below (heap_new _ p (by simp)) h⟩
theorem news2d {w w' : World} {o p : Obj} (h : Below ((w.alloc o).alloc p).drew.heap.size ((w.alloc o).alloc p).drew w') : w'.heap[w.heap.size]? = some o ∧ w'.heap[w.heap.size + 1]? = some p := ⟨heap_below (w := ((w.alloc o).alloc p).drew) (heap_old (heap_new w o rfl) p) h, heap_below (w := ((w.alloc o).alloc p).drew) (heap_new _ p (by simp)) h⟩

end Go.Proofs.YtegobkaldedhhaaGreatDoor
