/- The library's contracts of strings.Join and of a Builder's WriteString, laid at this dump. (Printed by genHB.py.) (VB without V7) A Builder that holds bytes: WriteString, String. -/
import Derived.Shelf.Lay
import Derived.Shelf.Strings.BuilderF
import Derived.Shelf.Strings.OnBuilder
import Derived.Shelf.Strings.BuilderK
import Derived.Test.YtcfhaljkemaefaaGreatDoorProg
import Derived.Test.YtcfhaljkemaefaaGreatDoorZP
-- merged: HB BW

namespace Go.Proofs
open Go.Shelf
def Tryz.layH166_ren : Go.Shelf.Ren := ⟨fun | 166 => 17 | 240 => 32 | 276 => 61 | n => n, fun | 0 => 0 | 3 => 3 | 4 => 4 | 5 => 5 | 9 => 9 | 20 => 20 | 31 => 58 | 37 => 48 | 70 => 47 | 72 => 50 | 75 => 52 | 76 => 53 | 80 => 57 | 127 => 73 | 164 => 103 | n => n, fun | n => n⟩
theorem Tryz.layH166 : Go.Proofs.Lays.n166 Tryz.prog Tryz.layH166_ren := {
  mixed := by kernel_rfl
  f166 := Tryz.func17.trans (congrArg some (by kernel_rfl))
  f240 := Tryz.func32.trans (congrArg some (by kernel_rfl))
  f276 := Tryz.func61.trans (congrArg some (by kernel_rfl))
  t0 := Tryz.underlying0
  a0 := Tryz.isAgg0
  z0 := Tryz.sizeOf0
  v0 := Tryz.zeroValue0
  t3 := Tryz.underlying3
  a3 := Tryz.isAgg3
  z3 := Tryz.sizeOf3
  v3 := Tryz.zeroValue3
  t4 := Tryz.underlying4
  a4 := Tryz.isAgg4
  z4 := Tryz.sizeOf4
  v4 := Tryz.zeroValue4
  t9 := Tryz.underlying9
  a9 := Tryz.isAgg9
  z9 := Tryz.sizeOf9
  v9 := Tryz.zeroValue9
  t20 := Tryz.underlying20
  a20 := Tryz.isAgg20
  z20 := Tryz.sizeOf20
  v20 := Tryz.zeroValue20
  t37 := Tryz.underlying48
  a37 := Tryz.isAgg48
  z37 := Tryz.sizeOf48
  v37 := Tryz.zeroValue48
  t70 := Tryz.underlying47
  a70 := Tryz.isAgg47
  z70 := Tryz.sizeOf47
  v70 := Tryz.zeroValue47
  t72 := Tryz.underlying50
  a72 := Tryz.isAgg50
  z72 := Tryz.sizeOf50
  v72 := Tryz.zeroValue50
  t75 := Tryz.underlying52
  a75 := Tryz.isAgg52
  z75 := Tryz.sizeOf52
  v75 := Tryz.zeroValue52
  t164 := Tryz.underlying103
  a164 := Tryz.isAgg103
  z164 := Tryz.sizeOf103
  v164 := Tryz.zeroValue103 }
theorem Tryz.layH166_extra : Builder.Extra Tryz.prog Tryz.layH166_ren := {
  sizeBuilder := by kernel_rfl
  liesBuilder := by kernel_rfl
  t5 := Tryz.underlying5
  a5 := Tryz.isAgg5
  z5 := Tryz.sizeOf5
  v5 := Tryz.zeroValue5
  infoByte := by kernel_rfl
  cellsByte := by kernel_rfl
  sizeByte := by kernel_rfl
  neB5 := by decide }
open Go.RowKit in
theorem Tryz.wstr_c (B b : Nat) (bs : List Value) (s : ByteArray) (w : World) (h : Lib.IsBuilderF 50 5 B b bs w) (hlen : bs.length + s.size ≤ 140737488355328) (hBw : B ≤ w.heap.size) :
    Calls Tryz.prog 17 #[.pointer (some ⟨b, 0, none⟩), .string s] w fun e w' => e = .returned (.tuple #[.int .i64 s.size, .nilIface]) ∧ (Lib.BuilderAtF 50 5 B b (.pointer (some ⟨b, 0, none⟩)) (bs ++ Lib.strCells s) w' ∧ Below B w w') :=
  Any.Builder_WriteString_f Tryz.layH166 Tryz.layH166_extra B b bs s w h hlen hBw
open Go.RowKit in
theorem Tryz.wstrk_c (B b : Nat) (bs : List Value) (s : ByteArray) (w : World) (h : Lib.IsBuilderF 50 5 B b bs w) (hlen : bs.length + s.size ≤ 140737488355328) (hBw : B ≤ w.heap.size) :
    Calls Tryz.prog 17 #[.pointer (some ⟨b, 0, none⟩), .string s] w fun e w' => e = .returned (.tuple #[.int .i64 s.size, .nilIface]) ∧ (Lib.BuilderAtF 50 5 B b (.pointer (some ⟨b, 0, none⟩)) (bs ++ Lib.strCells s) w' ∧ Below B w w' ∧ Lib.OthersKept 5 (some b) w w') :=
  Any.Builder_WriteString_k Tryz.layH166 Tryz.layH166_extra B b bs s w h hlen hBw
end Go.Proofs

namespace Go.Proofs.YtcfhaljkemaefaaGreatDoor
open Go.RowKit Limb Nmb Work
set_option linter.unusedVariables false
set_option linter.unusedSimpArgs false

/-- A Builder at b holds the bytes l. -/
def Bld (w : World) (b : Nat) (l : List UInt8) : Prop := Lib.IsBuilderF 50 5 b b (Lib.byteCells l) w
theorem Bld.new (w : World) : Bld (w.alloc (.cells #[.pointer none, .slice none 0 0] 50)) w.heap.size [] := Lib.IsBuilderF.of (Lib.fresh_isBuilder _ 5 w)
theorem Bld.below {w w' : World} {b : Nat} {l : List UInt8} (h : Bld w b l) (hb : Below w.heap.size w w') : Bld w' b l := by
  have hk : ∀ p, Lib.BuilderAtF 50 5 b b p (Lib.byteCells l) w → Lib.BuilderAtF 50 5 b b p (Lib.byteCells l) w' := by
    intro p hh
    have hlt := hh.lt
    obtain ⟨hB, v, hv, hown, hne⟩ := hh
    exact ⟨hB, v, (hb.block b hlt).trans hv, hown.kept (row := none) (grown_of hb none) (Classical.em _), hne⟩
  exact h.elim (fun x => .inl (hk _ x)) (fun x => .inr (hk _ x))
theorem Bld.lt {w : World} {b : Nat} {l : List UInt8} (h : Bld w b l) : b < w.heap.size := h.elim (fun x => x.lt) (fun x => x.lt)
/-- What WriteString leaves. -/
def RetWS (s : ByteArray) (b : Nat) (l : List UInt8) (w : World) (e : Ending) (w' : World) : Prop :=
  e = .returned (.tuple #[.int .i64 s.size, .nilIface]) ∧ Bld w' b (l ++ s.data.toList) ∧ Below b w w' ∧ ∀ (k : Nat) (cs : Array Value) (T : TypeId) (fz : Nat × Nat), w.heap[k]? = some (.cells cs T fz) → k ≠ b → T ≠ 5 → w'.heap[k]? = some (.cells cs T fz)
theorem write_c (b : Nat) (l : List UInt8) (s : ByteArray) (w : World) (h : Bld w b l) (hlen : l.length + s.size ≤ 1000000) :
    Calls Tryz.prog 17 #[.pointer (some ⟨b, 0, none⟩), .string s] w (RetWS s b l w) := by
  refine (Tryz.wstrk_c b b (Lib.byteCells l) s w h (by rw [Lib.byteCells_length]; omega) (Nat.le_of_lt h.lt)).mono ?_
  rintro e w' ⟨rfl, hat, hbl, hok⟩
  rw [Lib.strCells_eq, ← Lib.byteCells_append] at hat
  refine ⟨rfl, Or.inr hat, hbl, fun k cs T fz hh hk hT => hok k _ hh (fun e => hk (Option.some.inj e)) (fun c z e => ?_)⟩
  injection e with _ e
  exact hT e
theorem bstr_c (b : Nat) (l : List UInt8) (w : World) (h : Bld w b l) :
    Calls Tryz.prog 20 #[.pointer (some ⟨b, 0, none⟩)] w fun e w' => e = .returned (.string (bs l)) ∧ Below b w w' := by
  refine (Tryz.Builder_String_any_f b b l w h (Nat.le_of_lt h.lt)).mono ?_
  rintro e w' ⟨rfl, -, hb⟩
  exact ⟨rfl, hb⟩
end Go.Proofs.YtcfhaljkemaefaaGreatDoor
