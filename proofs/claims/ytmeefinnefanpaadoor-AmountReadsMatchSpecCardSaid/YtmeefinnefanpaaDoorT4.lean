
/- The walks of amount.grouped and amount.Text. -/
import Derived.Test.YtmeefinnefanpaaDoorT1
import Derived.Test.YtmeefinnefanpaaDoorT3
import Derived.Deep.RegionHeld3
namespace Go.Proofs.YtmeefinnefanpaaDoor
open Go.RowKit Limb
set_option linter.unusedVariables false
set_option linter.unusedSimpArgs false

/-! ### Plain -/
/-- Groups of three from behind, with a byte between. -/
def grpF (g : UInt8) : Nat → List UInt8 → List UInt8
  | 0, l => l
  | k + 1, l => if 3 < l.length then grpF g k (l.take (l.length - 3)) ++ g :: l.drop (l.length - 3) else l
def grp (g : UInt8) (l : List UInt8) : List UInt8 := grpF g l.length l
theorem grpF_enough (g : UInt8) : ∀ (k j : Nat) (l : List UInt8), l.length ≤ k → l.length ≤ j → grpF g k l = grpF g j l
  | 0, 0, l, _, _ => rfl
  | 0, j + 1, l, h, _ => by unfold grpF; rw [if_neg (by omega)]
  | k + 1, 0, l, _, h => by conv => lhs; unfold grpF
                            rw [if_neg (by omega)]; rfl
  | k + 1, j + 1, l, h1, h2 => by
    unfold grpF
    by_cases h : 3 < l.length
    · rw [if_pos h, if_pos h, grpF_enough g k j _ (by simp; omega) (by simp; omega)]
    · rw [if_neg h, if_neg h]
theorem grp_short {g : UInt8} {l : List UInt8} (h : l.length ≤ 3) : grp g l = l := by
  unfold grp
  rcases l with _ | ⟨a, l⟩
  · rfl
  · simp only [List.length_cons, grpF]; rw [if_neg (by simp at h; omega)]
theorem grp_long {g : UInt8} {l : List UInt8} (h : 3 < l.length) : grp g l = grp g (l.take (l.length - 3)) ++ g :: l.drop (l.length - 3) := by
  unfold grp
  rw [grpF_enough g l.length (l.length + 1) l (by omega) (by omega), grpF, if_pos h, grpF_enough g l.length (l.take (l.length - 3)).length _ (by simp) (by simp)]
def sgL (u : Int) : List UInt8 := if u < 0 then [45] else []
def digL (u : Int) : List UInt8 := Lib.decDigits u.natAbs
def befL (u : Int) (p : Nat) : List UInt8 := (padL (digL u) p).take ((padL (digL u) p).length - p)
def behL (u : Int) (p : Nat) : List UInt8 := (padL (digL u) p).drop ((padL (digL u) p).length - p)
def textL (u : Int) (p : Nat) : List UInt8 := sgL u ++ befL u p ++ (if p = 0 then [] else 46 :: behL u p)
theorem digL_len {u : Int} (h : u.natAbs < 10 ^ 30) : 1 ≤ (digL u).length ∧ (digL u).length ≤ 30 := by
  unfold digL
  rcases Nat.eq_zero_or_pos u.natAbs with h0 | h0
  · rw [h0, Lib.decDigits_one (by decide)]; simp
  · rw [← tail_pos h0]
    refine ⟨?_, tail_len 30 _ h⟩
    rw [tail_step h0]; simp

/-! ### grouped -/
theorem enc_fin : ∀ n : Fin 128, Utf8.encode ((n.val : Nat) : Int) = (⟨#[UInt8.ofNat n.val]⟩ : ByteArray) := by decide +kernel
theorem enc_ascii {g : UInt8} (h : g.toNat < 128) : Utf8.encode ((g.toNat : Nat) : Int) = (⟨#[g]⟩ : ByteArray) := by
  have := enc_fin ⟨g.toNat, h⟩
  rw [this]
  simp
theorem run_byte {g : UInt8} (h : g.toNat < 128) (w : World) : (convert 5 9 (.int .u8 ((g.toNat : Nat) : Int))).run Tryd.prog w = .ok (.string (⟨#[g]⟩ : ByteArray)) w := by
  rw [run_convert_int_string _ _ _ _ _ (by kernel_rfl) (by kernel_rfl), enc_ascii h]
def RetGr (l : List UInt8) (w : World) (e : Ending) (w' : World) : Prop := ∃ s : ByteArray, e = .returned (.string s) ∧ s.data.toList = l ∧ Below w.heap.size w w'
set_option maxHeartbeats 2000000 in
set_option maxRecDepth 100000 in
theorem grouped_c (s : ByteArray) (g : UInt8) (w : World) (hg : g.toNat < 128) (hs : s.size ≤ 1000) :
    Calls Tryd.prog 23 #[.string s, .int .u8 (g.toNat : Int)] w (RetGr (grp g s.data.toList) w) := by
  go_enter Tryd.func23, Tryd.ntmps23
  go_wp2
  go_loopw [0, 5] (fun d o wr => ∃ t x : ByteArray, d = .string t ∧ o = .string x ∧ grp g t.data.toList ++ x.data.toList = grp g s.data.toList ∧ x.size ≤ 2 * (s.size - t.size) ∧ t.size ≤ s.size ∧ Below w.heap.size w wr) (fun d _ _ => match d with | .string t => t.size | _ => 0)
  case atStart => exact ⟨s, ⟨#[]⟩, rfl, rfl, by simp, by show 0 ≤ _; omega, Nat.le_refl _, Below.refl _ _⟩
  case round =>
    obtain ⟨t, x, rfl, rfl, heq, hx, ht, hB⟩ := hrel
    have HE := Lib.hid heq; clear heq
    have hur := run_byte hg
    rcases Nat.lt_or_ge 3 t.size with hlt | hge
    · obtain ⟨b, hb⟩ : ∃ b, t.extract (t.size - 3) t.size = b := ⟨_, rfl⟩
      have hbs : b.size = 3 := by rw [← hb, ByteArray.size_extract]; omega
      have hbl : b.data.toList = t.data.toList.drop (t.size - 3) := by rw [← hb, Lib.extract_to_end]
      have HB := Lib.hid hb
      have k1 : ¬ 9223372036854775807 < 1 + b.size := by omega
      have k2 : ¬ 9223372036854775807 < 1 + b.size + x.size := by omega
      go_wp2
      have hsz : (t.extract 0 (t.size - 3)).size = t.size - 3 := by rw [ByteArray.size_extract]; omega
      refine ⟨⟨_, _, rfl, rfl, ?_, ?_, by omega, hB⟩, ?_⟩
      · have hl : t.data.toList.length = t.size := by simp
        rw [← HE.out, grp_long (l := t.data.toList) (by omega), hl, ByteArray.data_append, ByteArray.data_append, Lib.extract_data]
        simp [hbl]
      · rw [hsz, ByteArray.size_append, ByteArray.size_append, hbs]
        show 1 + 3 + x.size ≤ _
        omega
      · show (t.extract 0 (t.size - 3)).size < t.size
        omega
    · have hcond : ¬ 9223372036854775807 < t.size + x.size := by omega
      go_wp2
      go_ret
      refine ⟨_, rfl, ?_, hB⟩
      have hl : t.data.toList.length = t.size := by simp
      rw [← HE.out, grp_short (by omega), ByteArray.data_append]
      simp

/-! ### Text -/
/-- What a call that writes comes to. -/
def RetST (l : List UInt8) (f : Int) (w : World) (e : Ending) (w' : World) : Prop := ∃ s : ByteArray, e = .returned (.tuple #[.string s, .int .i64 f]) ∧ s.data.toList = l ∧ Below w.heap.size w w'
def textR (u p : Int) : List UInt8 := if decB u p = true then textL u p.toNat else []
def decF (u p : Int) : Int := if decB u p = true then 0 else 1
theorem bef_len {u : Int} {p : Nat} (hp : p ≤ 9) (hu : u.natAbs < 10 ^ 30) : (befL u p).length ≤ 40 ∧ (behL u p).length ≤ 40 := by
  have h1 := padL_len (digL u) p
  have h2 := digL_len hu
  unfold befL behL
  rw [List.length_take, List.length_drop]
  omega

theorem big_pos {K : IntKind} {E : TypeId} {b : Nat} {w : World} {s : Bool} {A : Option Addr} {n c m : Nat} (h : Big K E b w s A n c (m : Int)) (hb : 0 < b) : s = false := by
  obtain ⟨l, hd, hnc, hcm, gl, nl, sl, hz⟩ := h
  cases s with
  | false => rfl
  | true =>
    have := val_pos hb nl (sl rfl)
    unfold sg at hz
    simp at hz
    omega
theorem nat_pow200 {u : Int} (h : -1000000000000000 ≤ u ∧ u ≤ 1000000000000000) : u.natAbs < 10 ^ 200 ∧ u.natAbs < 10 ^ 30 := by
  have h1 : u.natAbs ≤ 1000000000000000 := by omega
  exact ⟨Nat.lt_of_le_of_lt h1 (by decide), Nat.lt_of_le_of_lt h1 (by decide)⟩

theorem signS_data (u : Int) : (signS u).data.toList = sgL u := by unfold signS sgL; split <;> rfl
theorem signS_size (u : Int) : (signS u).size ≤ 1 := by unfold signS; split <;> decide
theorem signS_len (u : Int) : (signS u).size = (sgL u).length := by unfold signS sgL; split <;> rfl

end Go.Proofs.YtmeefinnefanpaaDoor
