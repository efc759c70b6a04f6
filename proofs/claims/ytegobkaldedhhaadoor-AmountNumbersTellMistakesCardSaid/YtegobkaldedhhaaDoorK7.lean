
/- The walks of package amount's numbers: isTax, lengths, isNumber, IsNumber. -/
import Derived.Test.YtegobkaldedhhaaDoorK4
import Derived.Deep.RegionHeld3
import Derived.Deep.QuietTactic
import Derived.BigQuiet
namespace Go.Proofs.YtegobkaldedhhaaDoor
open Go.RowKit Limb Nmb
set_option linter.unusedVariables false
set_option linter.unusedSimpArgs false

/-! ### A tax number -/
theorem flipC {P : Program} {f : FuncId} {args : Array Value} {w : World} {v : Value} (h : Calls P f args w fun e w' => w = w' ∧ e = .returned v) : Calls P f args w fun e w' => e = .returned v ∧ w' = w := h.mono fun _ _ h => ⟨h.2, h.1.symm⟩
theorem taxD_take (l : List UInt8) : taxD (l.take 10) = taxD l := by
  unfold taxD
  rw [taxP_congr (l := l) (l' := l.take 10) (k := 10) (fun i hi => byA_take hi)]
theorem digs_take {l : List UInt8} {k : Nat} (h : digs l = true) (h0 : 0 < k) (hk : k ≤ l.length) : digs (l.take k) = true := by
  have hd := digs_yes h
  refine digs_mk (by simp; omega) (fun i hi => ?_)
  simp at hi
  unfold dgt
  rw [byA_take (by omega)]
  exact hd.2 i (by omega)
theorem tax_len {l : List UInt8} (h : l.length ≠ 11) : taxB l = false := by unfold taxB; rw [decide_eq_false h]; rfl
theorem tax_dig {l : List UInt8} (h : digs l = false) : taxB l = false := by unfold taxB; rw [h]; simp
theorem tax_is {l : List UInt8} (h : l.length = 11) (hd : digs l = true) : taxB l = decide (byA l 0 ≠ 48 ∧ taxD l = byA l 10) := by unfold taxB; rw [decide_eq_true h, hd]; rfl
set_option maxHeartbeats 1000000 in
set_option maxRecDepth 100000 in
theorem istax_c (s : ByteArray) (w : World) (hs : s.size ≤ 9223372036854775807) :
    Calls Tryd.prog 146 #[.string s] w (RetB (taxB s.data.toList) w) := by
  have hl := szL s
  by_cases h1 : s.size = 11
  case neg =>
    rw [tax_len (by omega)]
    have h1' : ((s.size : Int) == 11) = false := by simp; omega
    clear hl h1
    go_enter Tryd.func146, Tryd.ntmps146
    go_wp2
    go_quiet (fail)
    go_wp2
    go_ret
    exact ⟨rfl, below_drewN (Below.refl _ _) _⟩
  have hD := Lib.hid (fun w => isdigs_c s w hs)
  have h1' : ((s.size : Int) == 11) = true := by simp; omega
  cases hd : digs s.data.toList with
  | false =>
    rw [tax_dig hd]
    rw [hd] at hD
    clear hl h1 hd
    go_enter Tryd.func146, Tryd.ntmps146
    go_wp2
    go_quiet ((go_at_call 70; exact Calls.quiet_of_same (flipC (hD.out _))))
    go_wp2
    go_ret
    exact ⟨rfl, below_drewN (Below.refl _ _) _⟩
  | true =>
  rw [tax_is (by omega) hd]
  rw [hd] at hD
  have j0 : 0 < s.size := by omega
  have j10 : 10 < s.size := by omega
  have b0 := byS s 0 j0
  have b10 := byS s 10 j10
  rw [← b0, ← b10]
  have q10 : (10 : Int) ≤ (s.size : Int) := by omega
  have i0 : (0 : Int) < (s.size : Int) := by omega
  have i10 : (10 : Int) < (s.size : Int) := by omega
  by_cases h48 : ((s[0]'j0).toNat : Int) = 48
  · rw [decide_eq_false (fun h => h.1 h48)]
    have e48 : (((s[0]'j0).toNat : Int) == 48) = true := beq_iff_eq.2 h48
    have n48 : (((s[0]'j0).toNat : Int) != 48) = false := by unfold bne; rw [e48]; rfl
    clear hl h1 hd b0 b10 h48
    go_enter Tryd.func146, Tryd.ntmps146
    go_wp2
    go_quiet ((go_at_call 70; exact Calls.quiet_of_same (flipC (hD.out _))))
    go_wp2
    go_ret
    exact ⟨rfl, below_drewN (Below.refl _ _) _⟩
  · have e48 : (((s[0]'j0).toNat : Int) == 48) = false := beq_eq_false_iff_ne.2 h48
    have n48 : (((s[0]'j0).toNat : Int) != 48) = true := by unfold bne; rw [e48]; rfl
    have hT := Lib.hid (fun w => taxd_c (s.extract 0 10) w (by rw [ByteArray.size_extract]; omega) (by rw [ext_take]; exact digs_take hd (by decide) (by omega)))
    rw [ext_take, taxD_take] at hT
    obtain ⟨T, hTe⟩ : ∃ T, taxD s.data.toList = T := ⟨_, rfl⟩
    have hR := Lib.hid (show decide (((s[0]'j0).toNat : Int) ≠ 48 ∧ T = ((s[10]'j10).toNat : Int)) = (T == ((s[10]'j10).toNat : Int)) by rw [Bool.eq_iff_iff]; simp; intro _; exact h48)
    rw [hTe] at hT ⊢
    rw [hR.out]
    clear hl h1 hd b0 b10 h48 hTe hR
    go_enter Tryd.func146, Tryd.ntmps146
    go_wp2
    go_quiet (first | (go_at_call 70; exact Calls.quiet_of_same (flipC (hD.out _))) | (go_at_call 169; exact Calls.quiet_of_same (flipC (hT.out _))))
    go_wp2
    go_ret
    exact ⟨rfl, below_drewN (Below.refl _ _) _⟩

/-! ### The lengths -/
def lensL (kind : Int) : List Int := if kind = 1 then [8, 12, 13, 14] else if kind = 2 then [13] else [18]
def RetLens (zs : List Int) (w : World) (e : Ending) (w' : World) : Prop := ∃ g, e = .returned (.slice (some ⟨g, 0, none⟩) zs.length zs.length) ∧ (∀ j, j < zs.length → w'.cell? ⟨g, 0 + j, none⟩ = some (.int .i64 (zs.getD j 0))) ∧ Below w.heap.size w w'
theorem row_int (w : World) (zs : List Int) (t : TypeId) {cs : Array Value} (hcs : cs = (zs.map (Value.int .i64)).toArray) : ∀ j, j < zs.length → (w.alloc (.cells cs t)).cell? ⟨w.heap.size, 0 + j, none⟩ = some (.int .i64 (zs.getD j 0)) := by
  subst hcs
  intro j hj
  refine cell_of_row _ _ _ _ _ _ (heap_new w _ rfl) |>.trans ?_
  simp [hj]
theorem lensL_no {kind : Int} (h1 : kind ≠ 1) (h2 : kind ≠ 2) : lensL kind = [18] := by unfold lensL; rw [if_neg h1, if_neg h2]
theorem lens_has (kind : Int) (n : Nat) : ((lensL kind).take (lensL kind).length).contains (n : Int) = lenB kind n := by
  rw [List.take_length]
  unfold lensL lenB
  split
  · rw [Bool.eq_iff_iff]; simp; omega
  · split
    · rw [Bool.eq_iff_iff]; simp; omega
    · rw [Bool.eq_iff_iff]; simp; omega
set_option maxRecDepth 100000 in
theorem lengths_c (kind : Int) (w : World) : Calls Tryd.prog 148 #[.int .i64 kind] w (RetLens (lensL kind) w) := by
  by_cases h1 : kind = 1
  · subst h1
    go_enter Tryd.func148, Tryd.ntmps148
    go_wp2
    go_ret
    exact ⟨w.heap.size, rfl, row_int w [8, 12, 13, 14] _ rfl, by go_grown⟩
  by_cases h2 : kind = 2
  · subst h2
    go_enter Tryd.func148, Tryd.ntmps148
    go_wp2
    go_ret
    exact ⟨w.heap.size, rfl, row_int w [13] _ rfl, by go_grown⟩
  · have e1 : (kind == 1) = false := beq_eq_false_iff_ne.2 h1
    have e2 : (kind == 2) = false := beq_eq_false_iff_ne.2 h2
    rw [lensL_no h1 h2]
    clear h1 h2
    go_enter Tryd.func148, Tryd.ntmps148
    go_wp2
    go_ret
    exact ⟨w.heap.size, rfl, row_int w [18] _ rfl, by go_grown⟩

/-! ### A number of a kind -/
theorem num_plain {kind : Int} {l : List UInt8} (h4 : kind ≠ 4) (h5 : kind ≠ 5) : numB kind l = (lenB kind l.length && (digs l && sumB l)) := by unfold numB plainB; rw [if_neg h4, if_neg h5]
theorem lenB_bd {kind : Int} {n : Nat} (h : lenB kind n = true) : n ≤ 18 := by
  unfold lenB at h
  split at h
  · have := of_decide_eq_true h; omega
  · split at h
    · have := of_decide_eq_true h; omega
    · have := of_decide_eq_true h; omega
set_option maxHeartbeats 1000000 in
set_option maxRecDepth 100000 in
theorem isnumber_c (kind : Int) (s : ByteArray) (w : World) (hs : s.size ≤ 9223372036854775807) :
    Calls Tryd.prog 94 #[.int .i64 kind, .string s] w (RetB (numB kind s.data.toList) w) := by
  by_cases h4 : kind = 4
  · subst h4
    have H := Lib.hid (fun w => isbank_c s w hs)
    go_enter Tryd.func94, Tryd.ntmps94
    go_wp2_with fail
    refine (H.out _).mono ?_
    rintro e w1 ⟨rfl, hb1⟩
    go_wp2
    go_ret
    exact ⟨rfl, hb1⟩
  by_cases h5 : kind = 5
  · subst h5
    have H := Lib.hid (fun w => istax_c s w hs)
    go_enter Tryd.func94, Tryd.ntmps94
    go_wp2_with fail
    refine (H.out _).mono ?_
    rintro e w1 ⟨rfl, hb1⟩
    go_wp2
    go_ret
    exact ⟨rfl, hb1⟩
  have hl := szL s
  have e0 := num_plain (l := s.data.toList) h4 h5
  rw [hl] at e0
  rw [e0]
  have e4 : (kind == 4) = false := beq_eq_false_iff_ne.2 h4
  have e5 : (kind == 5) = false := beq_eq_false_iff_ne.2 h5
  have HH := Lib.hid (lens_has kind s.size)
  have HZ := Lib.hid (fun (w : World) (g : Nat) hc => Tryd.slices_Contains_int g 0 (lensL kind).length (lensL kind).length (lensL kind) (s.size : Int) w (Nat.le_refl _) (by unfold lensL; split; decide; split <;> decide) hc)
  have HN := Lib.hid (fun w => isdigs_c s w hs)
  have HL := Lib.hid (fun w => lengths_c kind w)
  clear e0 h4 h5
  cases hb : lenB kind s.size with
  | false =>
    rw [hb] at HH
    rw [Bool.false_and]
    clear hl hb
    go_enter Tryd.func94, Tryd.ntmps94
    go_wp2_with fail
    refine (HL.out _).mono ?_
    rintro e w1 ⟨g, rfl, hc, hb1⟩
    have HC := Lib.hid hc; clear hc
    go_wp2_with fail
    refine (HZ.out _ g HC.out).mono ?_
    rw [HH.out]
    rintro e w2 ⟨rfl, rfl⟩
    go_wp2
    go_ret
    exact ⟨rfl, hb1⟩
  | true =>
  have h18 := lenB_bd hb
  rw [hb] at HH
  rw [Bool.true_and]
  cases hd : digs s.data.toList with
  | false =>
    rw [hd] at HN
    rw [Bool.false_and]
    clear hl hb hd
    go_enter Tryd.func94, Tryd.ntmps94
    go_wp2_with fail
    refine (HL.out _).mono ?_
    rintro e w1 ⟨g, rfl, hc, hb1⟩
    have HC := Lib.hid hc; clear hc
    go_wp2_with fail
    refine (HZ.out _ g HC.out).mono ?_
    rw [HH.out]
    rintro e w2 ⟨rfl, rfl⟩
    go_wp2_with fail
    refine (HN.out _).mono ?_
    rintro e w2 ⟨rfl, rfl⟩
    go_wp2
    go_ret
    exact ⟨rfl, hb1⟩
  | true =>
  have HS := Lib.hid (fun w => issum_c s w (by omega) hd)
  rw [hd] at HN
  rw [Bool.true_and]
  clear hl hb hd
  go_enter Tryd.func94, Tryd.ntmps94
  go_wp2_with fail
  refine (HL.out _).mono ?_
  rintro e w1 ⟨g, rfl, hc, hb1⟩
  have HC := Lib.hid hc; clear hc
  go_wp2_with fail
  refine (HZ.out _ g HC.out).mono ?_
  rw [HH.out]
  rintro e w2 ⟨rfl, rfl⟩
  go_wp2_with fail
  refine (HN.out _).mono ?_
  rintro e w2 ⟨rfl, rfl⟩
  go_wp2_with fail
  refine (HS.out _).mono ?_
  rintro e w2 ⟨rfl, rfl⟩
  go_wp2
  go_ret
  exact ⟨rfl, hb1⟩

/-! ### IsNumber -/
def kindB (kind : Int) : Bool := decide (1 ≤ kind ∧ kind ≤ 5)
def RetBF (b : Bool) (f : Int) (w : World) (e : Ending) (w' : World) : Prop := e = .returned (.tuple #[.bool b, .int .i64 f]) ∧ Below w.heap.size w w'
theorem iskind_c (kind : Int) (w : World) : Calls Tryd.prog 90 #[.int .i64 kind] w fun e w' => w = w' ∧ e = .returned (.bool (kindB kind)) := by
  by_cases h : 1 ≤ kind ∧ kind ≤ 5
  · have hk : kindB kind = true := decide_eq_true h
    rw [hk]
    clear hk
    go_enter Tryd.func90, Tryd.ntmps90
    go_wp2_with fail
    refine (out_no _ _ _ _ h).mono ?_
    rintro e w1 ⟨rfl, rfl⟩
    go_wp2
    go_ret
    exact ⟨rfl, rfl⟩
  · have hk : kindB kind = false := decide_eq_false h
    rw [hk]
    clear hk
    go_enter Tryd.func90, Tryd.ntmps90
    go_wp2_with fail
    refine (out_yes _ _ _ _ h).mono ?_
    rintro e w1 ⟨rfl, rfl⟩
    go_wp2
    go_ret
    exact ⟨rfl, rfl⟩
theorem IsNumber_no (kind : Int) (s : ByteArray) (w : World) (h : kindB kind = false) :
    Calls Tryd.prog 34 #[.int .i64 kind, .string s] w (RetBF false 4 w) := by
  have H := Lib.hid h; clear h
  go_enter Tryd.func34, Tryd.ntmps34
  go_wp2_with fail
  refine (iskind_c _ _).mono ?_
  rw [H.out]
  rintro e w1 ⟨rfl, rfl⟩
  go_wp2
  go_ret2
  exact ⟨rfl, Below.refl _ _⟩
theorem IsNumber_yes (kind : Int) (s : ByteArray) (w : World) (hs : s.size ≤ 9223372036854775807) (h : kindB kind = true) :
    Calls Tryd.prog 34 #[.int .i64 kind, .string s] w (RetBF (numB kind s.data.toList) 0 w) := by
  have H := Lib.hid h; clear h
  have HN := Lib.hid (fun w => isnumber_c kind s w hs)
  go_enter Tryd.func34, Tryd.ntmps34
  go_wp2_with fail
  refine (iskind_c _ _).mono ?_
  rw [H.out]
  rintro e w1 ⟨rfl, rfl⟩
  go_wp2_with fail
  refine (HN.out _).mono ?_
  rintro e w2 ⟨rfl, hb2⟩
  go_wp2
  go_ret2
  exact ⟨rfl, hb2⟩
end Go.Proofs.YtegobkaldedhhaaDoor
