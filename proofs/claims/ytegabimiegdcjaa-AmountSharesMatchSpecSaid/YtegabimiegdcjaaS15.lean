
/- slices.Equal over amounts, and the walk of the law AmountSharesMatchSpec. -/
import Derived.Test.YtegabimiegdcjaaS14
import Derived.Test.YtegabimiegdcjaaS12
namespace Go.Proofs.Ytegabimiegdcjaa
open Go.RowKit Limb Work Stab
set_option linter.unusedVariables false
set_option linter.unusedSimpArgs false

theorem equal_nil (w : World) : Calls Try.prog 27 #[.slice none 0 0, .slice none 0 0] w fun e w' => w = w' ∧ e = .returned (.bool true) := by
  go_enter Try.func27, Try.ntmps27
  go_wp2
  go_loop [13] (fun y => y = .int .i64 0) (fun y => 0)
  case atStart => rfl
  case round =>
    subst hrel
    go_wp2
    go_ret
    exact ⟨rfl, rfl⟩

set_option maxHeartbeats 1000000 in
theorem equal_c (n a b : Nat) (T P : Nat → Int) (w : World) (hn : n ≤ 1000) (ha : ∀ x, x < n → w.cell? ⟨a, x * 2, none⟩ = some (.int .i64 (T x)) ∧ w.cell? ⟨a, x * 2 + 1, none⟩ = some (.int .i64 (P x)))
    (hb : ∀ x, x < n → w.cell? ⟨b, x * 2, none⟩ = some (.int .i64 (T x)) ∧ w.cell? ⟨b, x * 2 + 1, none⟩ = some (.int .i64 (P x))) :
    Calls Try.prog 27 #[.slice (some ⟨a, 0, none⟩) n n, .slice (some ⟨b, 0, none⟩) n n] w fun e w' => e = .returned (.bool true) ∧ Below w.heap.size w w' := by
  have HA := Lib.hid ha; have HB := Lib.hid hb
  clear ha hb
  go_enter Try.func27, Try.ntmps27
  go_wp2
  go_loopw [13] (fun y wx => ∃ j : Nat, j ≤ n ∧ y = .int .i64 j ∧ Below w.heap.size w wx ∧ (∀ b o, wx.cell? ⟨b, o, none⟩ = w.cell? ⟨b, o, none⟩)) (fun y _ => n - (intOf y).toNat)
  case atStart => exact ⟨0, Nat.zero_le _, rfl, Below.refl _ _, fun _ _ => rfl⟩
  case round =>
    obtain ⟨j, hj, rfl, hbel, hcl⟩ := hrel
    rcases Nat.lt_or_ge j n with hlt | hge
    · obtain ⟨a0, a1⟩ := HA.out j hlt
      obtain ⟨b0, b1⟩ := HB.out j hlt
      rw [← hcl] at a0 a1 b0 b1
      have HC := Lib.hid hcl; have HBL := Lib.hid hbel
      clear hcl hbel
      go_wp2_with fail
      go_region
      go_wp2
      go_roundw
      case rel => exact ⟨j + 1, by omega, by go_num, HBL.out.drew, HC.out⟩
      case measure => simp [intOf]; omega
    · obtain rfl : n = j := by omega
      have HBL := Lib.hid hbel
      clear hcl hbel
      go_wp2
      go_ret
      exact ⟨rfl, HBL.out⟩

theorem rshares_fault (u p : Int) (ws : List Int) (A : Option Addr) (n c : Nat) (w : World) (hI : Ints w A n ws) (hn : n ≤ 9223372036854775807) (hf : shF u p ws ≠ 0) :
    Calls Try.prog 26 #[.agg #[.int .i64 u, .int .i64 p], .slice A n c] w fun e w' => e = .returned (.tuple #[.slice none 0 0, .int .i64 (shF u p ws)]) ∧ Below w.heap.size w w' := by
  unfold shF at *
  by_cases h : decB u p = true
  · rw [if_pos h] at *; exact rshares_w u p ws A n c w h hI hn hf
  · rw [if_neg h] at *; exact rshares_bad u p A n c w (by simpa using h)

set_option maxHeartbeats 2000000 in
set_option maxRecDepth 100000 in
theorem law_shares_fault (u p : Int) (ws : List Int) (A : Option Addr) (n c : Nat) (w : World) (hI : Ints w A n ws) (hn : n ≤ 9223372036854775807) (hf : shF u p ws ≠ 0) :
    Calls Try.prog 6 #[.agg #[.int .i64 u, .int .i64 p], .slice A n c] w fun e w' => e = .returned (.bool true) ∧ Below w.heap.size w w' := by
  obtain ⟨F, hF⟩ : ∃ F, shF u p ws = F := ⟨_, rfl⟩
  have H := Lib.hid hf
  have HF := Lib.hid hF
  clear hf hF
  go_enter Try.func6, Try.ntmps6
  go_wp2_with fail
  have hI1 := hI.below ((Below.refl _ w).alloc (Nat.le_refl _) (.cells #[.int .i64 u, .int .i64 p] 23))
  refine (pshares_fault u p ws A n c _ hI1 hn H.out).mono ?_
  rintro e w1 ⟨rfl, hb1⟩
  rw [HF.out]
  have hD1 := heap_below (heap_new w (.cells #[.int .i64 u, .int .i64 p] 23) rfl) hb1
  have hbel1 := below_then hb1 (B := w.heap.size) (w := w) (by go_grown) (by simp)
  obtain ⟨d0, d1, -, -, hDl⟩ := box2 hD1
  clear hb1
  go_wp2_with fail
  refine (rshares_fault u p ws A n c _ (hI.below hbel1) hn H.out).mono ?_
  rintro e w2 ⟨rfl, hb2⟩
  rw [HF.out]
  have hbel2 := below_then hb2 hbel1 hbel1.size
  clear d0 d1 hD1 hb2 hbel1
  go_wp2_with (first
    | (go_at_call 27; refine (equal_nil _).mono ?_; rintro e w3 ⟨rfl, rfl⟩)
    | (go_at_call 15; refine (awake_c _).mono ?_; rintro e w4 ⟨rfl, hb4⟩))
  go_ret
  exact ⟨rfl, below_then hb4 hbel2 hbel2.size⟩

set_option maxHeartbeats 2000000 in
set_option maxRecDepth 100000 in
theorem law_shares_ok (u p : Int) (ws : List Int) (A : Option Addr) (n c : Nat) (w : World) (hI : Ints w A n ws) (hn : n ≤ 9223372036854775807) (hd : decB u p = true) (hf : wtF ws = 0) :
    Calls Try.prog 6 #[.agg #[.int .i64 u, .int .i64 p], .slice A n c] w fun e w' => e = .returned (.bool true) ∧ Below w.heap.size w w' := by
  obtain ⟨hn0, hn1, -, -⟩ := wtF_ok hf
  have H := Lib.hid hd; have HF := Lib.hid hf; have HLN := Lib.hid hI.1
  clear hd hf
  go_enter Try.func6, Try.ntmps6
  go_wp2_with fail
  have hI1 := hI.below ((Below.refl _ w).alloc (Nat.le_refl _) (.cells #[.int .i64 u, .int .i64 p] 23))
  refine (pshares_ok u p ws A n c _ H.out hI1 hn HF.out).mono ?_
  rintro e w1 ⟨f, b, rfl, hbij, hsrt, hbl, hcell, hb1⟩
  have hD1 := heap_below (heap_new w (.cells #[.int .i64 u, .int .i64 p] 23) rfl) hb1
  have hbel1 := below_then hb1 (B := w.heap.size) (w := w) (by go_grown) (by simp)
  obtain ⟨d0, d1, -, -, hDl⟩ := box2 hD1
  have HBJ := Lib.hid hbij; have HSR := Lib.hid hsrt; have HC := Lib.hid hcell
  clear hb1 hbij hsrt hcell
  go_wp2_with fail
  refine (rshares_ok u p ws A n c _ H.out (hI.below hbel1) hn HF.out f HBJ.out HSR.out).mono ?_
  rintro e w2 ⟨b2, rfl, hbl2, hcell2, hb2⟩
  have hbel2 := below_then hb2 hbel1 hbel1.size
  obtain ⟨g, hg⟩ := HBJ.out
  have HX : Hid (∀ x, x < ws.length → w2.cell? ⟨b, x * 2, none⟩ = some (.int .i64 (outV u ws f (g x))) ∧ w2.cell? ⟨b, x * 2 + 1, none⟩ = some (.int .i64 p)) := fun x hx => by
    obtain ⟨-, k2, k3, -⟩ := hg x hx
    obtain ⟨c1, c2⟩ := HC.out (g x) k2
    rw [k3] at c1 c2
    exact ⟨(hb2.cell (p := ⟨b, x * 2, none⟩) hbl).trans c1, (hb2.cell (p := ⟨b, x * 2 + 1, none⟩) hbl).trans c2⟩
  have HY : Hid (∀ x, x < ws.length → w2.cell? ⟨b2, x * 2, none⟩ = some (.int .i64 (outV u ws f (g x))) ∧ w2.cell? ⟨b2, x * 2 + 1, none⟩ = some (.int .i64 p)) := fun x hx => by
    obtain ⟨-, k2, k3, -⟩ := hg x hx
    obtain ⟨c1, c2⟩ := hcell2 (g x) k2
    rw [k3] at c1 c2
    exact ⟨c1, c2⟩
  clear d0 d1 hD1 hb2 hbel1 hcell2 hg
  go_wp2_with (first
    | (go_at_call 27; refine (equal_c ws.length b b2 (fun x => outV u ws f (g x)) (fun _ => p) _ hn1 HX.out HY.out).mono ?_; rintro e w3 ⟨rfl, hb3⟩)
    | (go_at_call 15; refine (awake_c _).mono ?_; rintro e w4 ⟨rfl, hb4⟩))
  go_ret
  have hbel3 := below_then hb3 hbel2 hbel2.size
  exact ⟨rfl, below_then hb4 hbel3 hbel3.size⟩

theorem law_shares (u p : Int) (ws : List Int) (A : Option Addr) (n c : Nat) (w : World) (hI : Ints w A n ws) (hn : n ≤ 9223372036854775807) :
    Calls Try.prog 6 #[.agg #[.int .i64 u, .int .i64 p], .slice A n c] w fun e w' => e = .returned (.bool true) ∧ Below w.heap.size w w' := by
  by_cases hf : shF u p ws = 0
  · exact law_shares_ok u p ws A n c w hI hn (shF_ok hf).1 (shF_ok hf).2
  · exact law_shares_fault u p ws A n c w hI hn hf
end Go.Proofs.Ytegabimiegdcjaa
