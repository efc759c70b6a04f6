
/- The walks of amount.grouped and amount.Text. -/
import Derived.Test.YtegobkaldedhhaaDoorT1
import Derived.Test.YtegobkaldedhhaaDoorT3
import Derived.Deep.RegionHeld3
namespace Go.Proofs.YtegobkaldedhhaaDoor
open Go.RowKit Limb
set_option linter.unusedVariables false
set_option linter.unusedSimpArgs false

/-! ### Plain -/
/-- Groups of three from behind, with a byte between. -/
def grpF (g : UInt8) : Nat → List UInt8 → List UInt8
  | 0, l => l
  | k + 1, l => if 3 < l.length then grpF g k (l.take (l.length - 3)) ++ g :: l.drop (l.length - 3) else l
def grp (g : UInt8) (l : List UInt8) : List UInt8 := grpF g l.length l
theorem grpF_enough (g : UInt8) : ∀ (k j : Nat) (l : List UInt8), l.length ≤ k → l.length ≤ j → grpF g k l = grpF g j l
  | 0, 0, l, _, _ => rfl
  | 0, j + 1, l, h, _ => by unfold grpF; rw [if_neg (by omega)]
  | k + 1, 0, l, _, h => by conv => lhs; unfold grpF
                            rw [if_neg (by omega)]; rfl
  | k + 1, j + 1, l, h1, h2 => by
    unfold grpF
    by_cases h : 3 < l.length
    · rw [if_pos h, if_pos h, grpF_enough g k j _ (by simp; omega) (by simp; omega)]
    · rw [if_neg h, if_neg h]
theorem grp_short {g : UInt8} {l : List UInt8} (h : l.length ≤ 3) : grp g l = l := by
  unfold grp
  rcases l with _ | ⟨a, l⟩
  · rfl
  · simp only [List.length_cons, grpF]; rw [if_neg (by simp at h; omega)]
theorem grp_long {g : UInt8} {l : List UInt8} (h : 3 < l.length) : grp g l = grp g (l.take (l.length - 3)) ++ g :: l.drop (l.length - 3) := by
  unfold grp
  rw [grpF_enough g l.length (l.length + 1) l (by omega) (by omega), grpF, if_pos h, grpF_enough g l.length (l.take (l.length - 3)).length _ (by simp) (by simp)]
def sgL (u : Int) : List UInt8 := if u < 0 then [45] else []
def digL (u : Int) : List UInt8 := Lib.decDigits u.natAbs
def befL (u : Int) (p : Nat) : List UInt8 := (padL (digL u) p).take ((padL (digL u) p).length - p)
def behL (u : Int) (p : Nat) : List UInt8 := (padL (digL u) p).drop ((padL (digL u) p).length - p)
def textL (u : Int) (p : Nat) : List UInt8 := sgL u ++ befL u p ++ (if p = 0 then [] else 46 :: behL u p)
theorem digL_len {u : Int} (h : u.natAbs < 10 ^ 30) : 1 ≤ (digL u).length ∧ (digL u).length ≤ 30 := by
  unfold digL
  rcases Nat.eq_zero_or_pos u.natAbs with h0 | h0
  · rw [h0, Lib.decDigits_one (by decide)]; simp
  · rw [← tail_pos h0]
    refine ⟨?_, tail_len 30 _ h⟩
    rw [tail_step h0]; simp

/-! ### grouped -/
theorem enc_fin : ∀ n : Fin 128, Utf8.encode ((n.val : Nat) : Int) = (⟨#[UInt8.ofNat n.val]⟩ : ByteArray) := by decide +kernel
theorem enc_ascii {g : UInt8} (h : g.toNat < 128) : Utf8.encode ((g.toNat : Nat) : Int) = (⟨#[g]⟩ : ByteArray) := by
  have := enc_fin ⟨g.toNat, h⟩
  rw [this]
  simp
theorem run_byte {g : UInt8} (h : g.toNat < 128) (w : World) : (convert 5 9 (.int .u8 ((g.toNat : Nat) : Int))).run Tryd.prog w = .ok (.string (⟨#[g]⟩ : ByteArray)) w := by
  rw [run_convert_int_string _ _ _ _ _ (by kernel_rfl) (by kernel_rfl), enc_ascii h]
def RetGr (l : List UInt8) (w : World) (e : Ending) (w' : World) : Prop := ∃ s : ByteArray, e = .returned (.string s) ∧ s.data.toList = l ∧ Below w.heap.size w w'
set_option maxHeartbeats 2000000 in
set_option maxRecDepth 100000 in
theorem grouped_c (s : ByteArray) (g : UInt8) (w : World) (hg : g.toNat < 128) (hs : s.size ≤ 1000) :
    Calls Tryd.prog 73 #[.string s, .int .u8 (g.toNat : Int)] w (RetGr (grp g s.data.toList) w) := by
  go_enter Tryd.func73, Tryd.ntmps73
  go_wp2
  go_loopw [0, 5] (fun d o wr => ∃ t x : ByteArray, d = .string t ∧ o = .string x ∧ grp g t.data.toList ++ x.data.toList = grp g s.data.toList ∧ x.size ≤ 2 * (s.size - t.size) ∧ t.size ≤ s.size ∧ Below w.heap.size w wr) (fun d _ _ => match d with | .string t => t.size | _ => 0)
  case atStart => exact ⟨s, ⟨#[]⟩, rfl, rfl, by simp, by show 0 ≤ _; omega, Nat.le_refl _, Below.refl _ _⟩
  case round =>
    obtain ⟨t, x, rfl, rfl, heq, hx, ht, hB⟩ := hrel
    have HE := Lib.hid heq; clear heq
    have hur := run_byte hg
    rcases Nat.lt_or_ge 3 t.size with hlt | hge
    · obtain ⟨b, hb⟩ : ∃ b, t.extract (t.size - 3) t.size = b := ⟨_, rfl⟩
      have hbs : b.size = 3 := by rw [← hb, ByteArray.size_extract]; omega
      have hbl : b.data.toList = t.data.toList.drop (t.size - 3) := by rw [← hb, Lib.extract_to_end]
      have HB := Lib.hid hb
      have k1 : ¬ 9223372036854775807 < 1 + b.size := by omega
      have k2 : ¬ 9223372036854775807 < 1 + b.size + x.size := by omega
      go_wp2
      have hsz : (t.extract 0 (t.size - 3)).size = t.size - 3 := by rw [ByteArray.size_extract]; omega
      refine ⟨⟨_, _, rfl, rfl, ?_, ?_, by omega, hB⟩, ?_⟩
      · have hl : t.data.toList.length = t.size := by simp
        rw [← HE.out, grp_long (l := t.data.toList) (by omega), hl, ByteArray.data_append, ByteArray.data_append, Lib.extract_data]
        simp [hbl]
      · rw [hsz, ByteArray.size_append, ByteArray.size_append, hbs]
        show 1 + 3 + x.size ≤ _
        omega
      · show (t.extract 0 (t.size - 3)).size < t.size
        omega
    · have hcond : ¬ 9223372036854775807 < t.size + x.size := by omega
      go_wp2
      go_ret
      refine ⟨_, rfl, ?_, hB⟩
      have hl : t.data.toList.length = t.size := by simp
      rw [← HE.out, grp_short (by omega), ByteArray.data_append]
      simp

/-! ### Text -/
/-- What a call that writes comes to. -/
def RetST (l : List UInt8) (f : Int) (w : World) (e : Ending) (w' : World) : Prop := ∃ s : ByteArray, e = .returned (.tuple #[.string s, .int .i64 f]) ∧ s.data.toList = l ∧ Below w.heap.size w w'
def textR (u p : Int) : List UInt8 := if decB u p = true then textL u p.toNat else []
def decF (u p : Int) : Int := if decB u p = true then 0 else 1
theorem bef_len {u : Int} {p : Nat} (hp : p ≤ 9) (hu : u.natAbs < 10 ^ 30) : (befL u p).length ≤ 40 ∧ (behL u p).length ≤ 40 := by
  have h1 := padL_len (digL u) p
  have h2 := digL_len hu
  unfold befL behL
  rw [List.length_take, List.length_drop]
  omega

theorem big_pos {K : IntKind} {E : TypeId} {b : Nat} {w : World} {s : Bool} {A : Option Addr} {n c m : Nat} (h : Big K E b w s A n c (m : Int)) (hb : 0 < b) : s = false := by
  obtain ⟨l, hd, hnc, hcm, gl, nl, sl, hz⟩ := h
  cases s with
  | false => rfl
  | true =>
    have := val_pos hb nl (sl rfl)
    unfold sg at hz
    simp at hz
    omega
theorem nat_pow200 {u : Int} (h : -1000000000000000 ≤ u ∧ u ≤ 1000000000000000) : u.natAbs < 10 ^ 200 ∧ u.natAbs < 10 ^ 30 := by
  have h1 : u.natAbs ≤ 1000000000000000 := by omega
  exact ⟨Nat.lt_of_le_of_lt h1 (by decide), Nat.lt_of_le_of_lt h1 (by decide)⟩

theorem signS_data (u : Int) : (signS u).data.toList = sgL u := by unfold signS sgL; split <;> rfl
theorem signS_size (u : Int) : (signS u).size ≤ 1 := by unfold signS; split <;> decide
theorem signS_len (u : Int) : (signS u).size = (sgL u).length := by unfold signS sgL; split <;> rfl

set_option maxHeartbeats 2000000 in
set_option maxRecDepth 100000 in
theorem wtext_c (u p : Int) (w : World) :
    Calls Tryd.prog 20 #[.agg #[.int .i64 u, .int .i64 p]] w (RetST (textR u p) (decF u p) w) := by
  cases hd : decB u p with
  | false =>
    have HC := Lib.hid (fun w => chk_bad u p w hd)
    rw [show textR u p = [] from if_neg (by rw [hd]; decide), show decF u p = 1 from if_neg (by rw [hd]; decide)]
    clear hd
    go_enter Tryd.func20, Tryd.ntmps20
    go_wp2_with fail
    refine (HC.out _).mono ?_
    rintro e w1 ⟨rfl, hb⟩
    go_wp2
    go_ret2
    refine ⟨_, rfl, rfl, ?_⟩
    go_grown
    exact below_then hb (by go_grown) (by simp only [World.size_alloc]; omega)
  | true =>
    have hdb := decB_out hd
    have HC := Lib.hid (fun w => chk_ok u p w hd)
    rw [show textR u p = textL u p.toNat from if_pos hd, show decF u p = 0 from if_pos hd]
    obtain ⟨q, rfl⟩ : ∃ q : Nat, p = (q : Int) := ⟨p.toNat, by omega⟩
    clear hd
    go_enter Tryd.func20, Tryd.ntmps20
    go_wp2_with fail
    refine (HC.out _).mono ?_
    rintro e w1 ⟨rfl, hb⟩
    have hX := heap_below (heap_new w (.cells #[.int .i64 u, .int .i64 (q : Int)] 40) rfl) hb
    have hB := below_then hb (by go_grown : Below w.heap.size w _) (by simp only [World.size_alloc]; omega)
    clear hb
    obtain ⟨a0, a1, -, -, a4⟩ := box2 hX
    have hz := hB.size
    obtain ⟨D, hD⟩ : ∃ D : ByteArray, (⟨(Lib.decDigits u.natAbs).toArray⟩ : ByteArray) = D := ⟨_, rfl⟩
    have hDl : D.data.toList = digL u := by rw [← hD]; rfl
    have hm200 := nat_pow200 (u := u) (by omega)
    have hDs : D.size ≤ 1000 := by
      have h1 := digL_len hm200.2
      rw [← hDl] at h1
      have : D.data.toList.length = D.size := by simp
      omega
    have HD := Lib.hid hD; have HDL := Lib.hid hDl; have H200 := Lib.hid hm200.1; have HQ := Lib.hid (show q ≤ 9 by omega); have HU := Lib.hid hdb
    clear hD hDl hm200 hdb
    go_wp2_with fail
    go_region_held3 (fun w' => w'.cell? ⟨w.heap.size, 0, none⟩ = some (.int .i64 u) ∧ w'.cell? ⟨w.heap.size, 1, none⟩ = some (.int .i64 (q : Int)))
      (first | (with_reducible exact ⟨r20, r21⟩) | (with_reducible exact ⟨r30, r31⟩) | (with_reducible exact ⟨r40, r41⟩) | (with_reducible exact ⟨r50, r51⟩) | (exact ⟨a0, a1⟩) | (go_keep; done))
      (first
        | (go_at_call 63; refine (of_c u _ (by have := HU.out; omega) (by have := HU.out; omega)).mono ?_; rintro e w2 ⟨s2, A2, n2, c2, rfl, hv2, hb2⟩; (have hX2 := heap_below (w := w1.drew) hX hb2); (have hB2 := below_then hb2 hB.drew hz); obtain ⟨r20, r21, -, -, -⟩ := box2 hX2)
        | (go_at_call 64; refine (abs_c _ hv2).mono ?_; rintro e w3 ⟨s3, A3, n3, c3, rfl, hv3, hb3⟩; (have hX3 := heap_below hX2 hb3); (have hB3 := below_then hb3 hB2 hB2.size); obtain ⟨r30, r31, -, -, -⟩ := box2 hX3; (have hs3 := big_pos hv3 (by decide)); subst hs3)
        | (go_at_call 65; refine (text_c _ hv3 H200.out).mono ?_; rintro e w4 ⟨rfl, hb4⟩; rw [HD.out]; (have hX4 := heap_below hX3 hb4); (have hB4 := below_then hb4 hB3 hB3.size); obtain ⟨r40, r41, -, -, -⟩ := box2 hX4)
        | (go_at_call 62; refine (pointed_c D q _ HQ.out hDs).mono ?_; rintro e w5 ⟨hb5, ba, bb, rfl, hba, hbb⟩; (have hX5 := heap_below hX4 hb5); (have hB5 := below_then hb5 hB4 hB4.size); obtain ⟨r50, r51, -, -, -⟩ := box2 hX5))
    clear hX hX2 hX3 hX4 hb2 hb3 hb4 hb5 hB hB2 hB3 hB4 r20 r21 r30 r31 r40 r41 hv2 hv3 a0 a1
    rw [HDL.out] at hba hbb
    have hle := bef_len (u := u) HQ.out (nat_pow200 (u := u) (by have := HU.out; omega)).2
    have hbas : ba.size ≤ 40 := by have h1 : ba.data.toList.length = ba.size := by simp
                                   rw [← h1, hba]; exact hle.1
    have hbbs : bb.size ≤ 40 := by have h1 : bb.data.toList.length = bb.size := by simp
                                   rw [← h1, hbb]; exact hle.2
    have HBA := Lib.hid hba; have HBB := Lib.hid hbb
    clear hba hbb hle
    have hSs := signS_size u
    have HSD := Lib.hid (signS_data u)
    have HSG := Lib.hid (fun w => sgn_c u (q : Int) w)
    obtain ⟨S, hS⟩ : ∃ S, signS u = S := ⟨_, rfl⟩
    rw [hS] at hSs HSD HSG
    clear hS
    have hz5 := hB5.size
    rcases Nat.eq_zero_or_pos q with h0 | h0
    · subst h0
      have hcat : ¬ 9223372036854775807 < S.size + ba.size := by omega
      go_wp2_with fail
      refine (HSG.out _).mono ?_
      rintro e w6 ⟨rfl, hb6⟩
      have hB6 := below_then hb6 hB5 hz5
      go_wp2
      go_ret2
      refine ⟨_, rfl, ?_, hB6⟩
      rw [ByteArray.data_append, Array.toList_append, HSD.out, HBA.out]
      unfold textL befL
      simp
    · have hcat : ¬ 9223372036854775807 < S.size + ba.size := by omega
      have hcat2 : ¬ 9223372036854775807 < S.size + ba.size + 1 := by omega
      have hcat3 : ¬ 9223372036854775807 < S.size + ba.size + 1 + bb.size := by omega
      have hq0 : ((q : Int) == 0) = false := beq_eq_false_iff_ne.2 (by omega)
      go_wp2_with fail
      refine (HSG.out _).mono ?_
      rintro e w6 ⟨rfl, hb6⟩
      have hB6 := below_then hb6 hB5 hz5
      go_wp2
      go_ret2
      refine ⟨_, rfl, ?_, hB6⟩
      simp only [ByteArray.data_append, Array.toList_append, HSD.out, HBA.out, HBB.out]
      rw [Int.toNat_natCast]
      unfold textL befL behL
      rw [if_neg (by omega)]
      simp
end Go.Proofs.YtegobkaldedhhaaDoor
