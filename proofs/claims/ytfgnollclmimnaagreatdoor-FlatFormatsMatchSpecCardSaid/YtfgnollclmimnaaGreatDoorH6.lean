
/- columnText and columnWords at every kind; a Builder that holds bytes; words for the walks of Text. -/
import Derived.Test.YtfgnollclmimnaaGreatDoorH41
import Derived.Test.YtfgnollclmimnaaGreatDoorH42
import Derived.Test.YtfgnollclmimnaaGreatDoorH43
import Derived.Test.YtfgnollclmimnaaGreatDoorH51
import Derived.Test.YtfgnollclmimnaaGreatDoorH52
import Derived.Test.YtfgnollclmimnaaGreatDoorH53
namespace Go.Proofs.YtfgnollclmimnaaGreatDoor
open Go.RowKit Limb Nmb Work
set_option linter.unusedVariables false
set_option linter.unusedSimpArgs false

theorem coltext_c (f : Fmt) (A0 : Option Addr) (c0 : Nat) (co : Col) (w : World) (hr : ColR f.mark co) (ht : Tab6 w) :
    Calls Tryz.prog 22 #[fmtG f A0 c0, colG co] w (RetS6 (bs (lnT (colT f.mark co))) w) := by
  rcases hr.kind with h | h | h
  · exact coltext1_c f A0 c0 co w hr h ht
  · exact coltext2_c f A0 c0 co w hr h ht
  · exact coltext3_c f A0 c0 co w hr h ht
theorem colwords_c (f : Fmt) (A0 : Option Addr) (c0 : Nat) (co : Col) (w : World) (hr : ColR f.mark co) (ht : Tab6 w) :
    Calls Tryz.prog 26 #[fmtG f A0 c0, colG co] w (RetCW (colT f.mark co) w) := by
  rcases hr.kind with h | h | h
  · exact colwords1_c f A0 c0 co w hr h ht
  · exact colwords2_c f A0 c0 co w hr h ht
  · exact colwords3_c f A0 c0 co w hr h ht
/-- A Builder at b holds the bytes l. -/
def Bld (w : World) (b : Nat) (l : List UInt8) : Prop := Lib.IsBuilderF 55 5 b b (Lib.byteCells l) w
theorem Bld.new (w : World) : Bld (w.alloc (.cells #[.pointer none, .slice none 0 0] 55)) w.heap.size [] := Lib.IsBuilderF.of (Lib.fresh_isBuilder _ 5 w)
theorem Bld.below {w w' : World} {b : Nat} {l : List UInt8} (h : Bld w b l) (hb : Below w.heap.size w w') : Bld w' b l := by
  have hk : ∀ p, Lib.BuilderAtF 55 5 b b p (Lib.byteCells l) w → Lib.BuilderAtF 55 5 b b p (Lib.byteCells l) w' := by
    intro p hh
    have hlt := hh.lt
    obtain ⟨hB, v, hv, hown, hne⟩ := hh
    exact ⟨hB, v, (hb.block b hlt).trans hv, hown.kept (row := none) (grown_of hb none) (Classical.em _), hne⟩
  exact h.elim (fun x => .inl (hk _ x)) (fun x => .inr (hk _ x))
theorem Bld.lt {w : World} {b : Nat} {l : List UInt8} (h : Bld w b l) : b < w.heap.size := h.elim (fun x => x.lt) (fun x => x.lt)
/-- What WriteString leaves. -/
def RetWS (s : ByteArray) (b : Nat) (l : List UInt8) (w : World) (e : Ending) (w' : World) : Prop :=
  e = .returned (.tuple #[.int .i64 s.size, .nilIface]) ∧ Bld w' b (l ++ s.data.toList) ∧ Below b w w' ∧ ∀ (k : Nat) (cs : Array Value) (T : TypeId) (fz : Nat × Nat), w.heap[k]? = some (.cells cs T fz) → k ≠ b → T ≠ 5 → w'.heap[k]? = some (.cells cs T fz)
theorem write_c (b : Nat) (l : List UInt8) (s : ByteArray) (w : World) (h : Bld w b l) (hlen : l.length + s.size ≤ 1000000) :
    Calls Tryz.prog 18 #[.pointer (some ⟨b, 0, none⟩), .string s] w (RetWS s b l w) := by
  refine (Tryz.wstrk_c b b (Lib.byteCells l) s w h (by rw [Lib.byteCells_length]; omega) (Nat.le_of_lt h.lt)).mono ?_
  rintro e w' ⟨rfl, hat, hbl, hok⟩
  rw [Lib.strCells_eq, ← Lib.byteCells_append] at hat
  refine ⟨rfl, Or.inr hat, hbl, fun k cs T fz hh hk hT => hok k _ hh (fun e => hk (Option.some.inj e)) (fun c z e => ?_)⟩
  injection e with _ e
  exact hT e
theorem bstr_c (b : Nat) (l : List UInt8) (w : World) (h : Bld w b l) :
    Calls Tryz.prog 23 #[.pointer (some ⟨b, 0, none⟩)] w fun e w' => e = .returned (.string (bs l)) ∧ Below b w w' := by
  refine (Tryz.Builder_String_any_f b b l w h (Nat.le_of_lt h.lt)).mono ?_
  rintro e w' ⟨rfl, -, hb⟩
  exact ⟨rfl, hb⟩
/-! ### The text so far -/
def kndL6 (m : Int) (k : RKd) : List UInt8 := lnT (kindT k) ++ (k.fields.map (colT m)).flatMap lnT
theorem text_parts (f : Fmt) : textL f = lnT (headT f) ++ (f.kinds.flatMap (kndL6 f.mark)) ++ lnT (endsT f) := by
  unfold textL linesT kdsT
  rw [List.flatMap_cons, List.flatMap_append, List.append_assoc]
  congr 1
  congr 1
  · induction f.kinds with
    | nil => rfl
    | cons k ks ih =>
      rw [List.flatMap_cons, List.flatMap_append, ih, List.flatMap_cons]
      unfold kndL6
      rw [List.flatMap_cons]
  · simp
theorem knd_take {m : Int} {ks : List RKd} {j : Nat} (h : j < ks.length) : (ks.take (j + 1)).flatMap (kndL6 m) = (ks.take j).flatMap (kndL6 m) ++ kndL6 m (kA ks j) := by
  rw [List.take_add_one, List.getElem?_eq_getElem h, List.flatMap_append, ← kA_get h]
  simp
theorem col_take {m : Int} {cs : List Col} {j : Nat} (h : j < cs.length) : ((cs.take (j + 1)).map (colT m)).flatMap lnT = ((cs.take j).map (colT m)).flatMap lnT ++ lnT (colT m (cA cs j)) := by
  rw [List.take_add_one, List.getElem?_eq_getElem h, List.map_append, List.flatMap_append, ← cA_get h]
  simp
end Go.Proofs.YtfgnollclmimnaaGreatDoor
