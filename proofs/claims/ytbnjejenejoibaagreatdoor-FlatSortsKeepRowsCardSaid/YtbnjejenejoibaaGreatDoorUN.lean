/- The walks of days and dates: the program's. Formats in memory; searches in columns and in kinds. -/
import Derived.Test.YtbnjejenejoibaaGreatDoorT1
import Derived.Test.YtbnjejenejoibaaGreatDoorRH
import Derived.Test.YtbnjejenejoibaaGreatDoorU2
import Derived.Test.YtbnjejenejoibaaGreatDoorMem
import Derived.Test.YtbnjejenejoibaaGreatDoorS1
import Derived.WalkSpells
import Derived.Deep.QuietTactic
import Derived.BigQuiet
import Derived.IntWalk
import Derived.Test.YtbnjejenejoibaaGreatDoorM0
import Derived.Test.YtbnjejenejoibaaGreatDoorShelf
import Derived.WalkLawsBesides
import Derived.Laws.IdiomStrings
-- merged: E1 F1 T2 K2 K3 UN
namespace Go.Proofs.YtbnjejenejoibaaGreatDoor
open Go.RowKit Limb Work
set_option linter.unusedVariables false
set_option linter.unusedSimpArgs false
theorem beqT {a b : Int} (h : a = b) : (a == b) = true := beq_iff_eq.2 h
theorem beqF {a b : Int} (h : ¬ a = b) : (a == b) = false := beq_eq_false_iff_ne.2 h
theorem leap_c (y : Int) (w : World) (h : 1 <= y /\ y <= 10000) : Calls Tryz.prog 288 #[.int .i64 y] w fun e w' => w = w' /\ e = .returned (.bool (leapB y)) := by
 obtain ⟨h1, h2⟩ := h
 by_cases a : y % 4 = 0
 ·by_cases b : y % 100 = 0
  ·by_cases c : y % 400 = 0
   ·have e : leapB y = true := decide_eq_true ⟨a, Or.inr c⟩
    rw [e]
    have a := beqT a; have b := beqT b; have c := beqT c; clear e
    go_enter Tryz.func288, Tryz.ntmps288
    go_wp2
    go_ret
    exact ⟨rfl, rfl⟩
   ·have e : leapB y = false := decide_eq_false (fun h => h.2.elim (fun h => h b) c)
    rw [e]
    have a := beqT a; have b := beqT b; have c := beqF c; clear e
    go_enter Tryz.func288, Tryz.ntmps288
    go_wp2
    go_ret
    exact ⟨rfl, rfl⟩
  ·have e : leapB y = true := decide_eq_true ⟨a, Or.inl b⟩
   rw [e]
   have a := beqT a; have b := beqF b; clear e
   go_enter Tryz.func288, Tryz.ntmps288
   go_wp2
   go_ret
   exact ⟨rfl, rfl⟩
 ·have e : leapB y = false := decide_eq_false (fun h => a h.1)
  rw [e]
  have a := beqF a; clear e
  go_enter Tryz.func288, Tryz.ntmps288
  go_wp2
  go_ret
  exact ⟨rfl, rfl⟩
theorem dim_two {y : Int} : dim y 2 = if leapB y = true then 29 else 28 := rfl
set_option maxHeartbeats 1000000 in
set_option maxRecDepth 100000 in
theorem daysof_c (y m : Int) (w : World) (h : 1 <= y /\ y <= 10000) (hm : 1 <= m /\ m <= 12) : Calls Tryz.prog 275 #[.int .i64 y, .int .i64 m] w fun e w' => Below w.heap.size w w' /\ e = .returned (.int .i64 (dim y m)) := by
 have HY := Lib.hid h
 have hm12 : m = 1 ∨ m = 2 ∨ m = 3 ∨ m = 4 ∨ m = 5 ∨ m = 6 ∨ m = 7 ∨ m = 8 ∨ m = 9 ∨ m = 10 ∨ m = 11 ∨ m = 12 := by omega
 clear h hm
 rcases hm12 with rfl | rfl | rfl | rfl | rfl | rfl | rfl | rfl | rfl | rfl | rfl | rfl
 case inr.inl =>
  cases hl : leapB y with
  | true =>
   rw [show dim y 2 = 29 by rw [dim_two, if_pos hl]]
   have HL := Lib.hid hl; clear hl
   go_enter Tryz.func275, Tryz.ntmps275
   go_wp2_with (go_at_call 288; refine (leap_c _ _ HY.out).mono ?_; rw [HL.out]; rintro e w1 ⟨rfl, rfl⟩)
   go_ret
   exact ⟨by go_grown, rfl⟩
  | false =>
   rw [show dim y 2 = 28 by rw [dim_two, if_neg (by rw [hl]; simp)]]
   have HL := Lib.hid hl; clear hl
   have hB : ∀ w : World, (Instr.build 300 #[(0, .int .i64 31), (1, .int .i64 28), (2, .int .i64 31), (3, .int .i64 30), (4, .int .i64 31), (5, .int .i64 30), (6, .int .i64 31), (7, .int .i64 31), (8, .int .i64 30), (9, .int .i64 31), (10, .int .i64 30), (11, .int .i64 31)]).run Tryz.prog w = .ok (.agg #[.int .i64 31, .int .i64 28, .int .i64 31, .int .i64 30, .int .i64 31, .int .i64 30, .int .i64 31, .int .i64 31, .int .i64 30, .int .i64 31, .int .i64 30, .int .i64 31]) w := fun w => run_build w _ _ _ (by kernel_rfl)
   go_enter Tryz.func275, Tryz.ntmps275
   go_wp2_with (go_at_call 288; refine (leap_c _ _ HY.out).mono ?_; rw [HL.out]; rintro e w1 ⟨rfl, rfl⟩)
   simp [Instr.index, run_underlying Tryz.underlying300, asIntOf, go_sem]
   go_wp2
   go_ret
   exact ⟨by go_grown, rfl⟩
 all_goals
  have hB : ∀ w : World, (Instr.build 300 #[(0, .int .i64 31), (1, .int .i64 28), (2, .int .i64 31), (3, .int .i64 30), (4, .int .i64 31), (5, .int .i64 30), (6, .int .i64 31), (7, .int .i64 31), (8, .int .i64 30), (9, .int .i64 31), (10, .int .i64 30), (11, .int .i64 31)]).run Tryz.prog w = .ok (.agg #[.int .i64 31, .int .i64 28, .int .i64 31, .int .i64 30, .int .i64 31, .int .i64 30, .int .i64 31, .int .i64 31, .int .i64 30, .int .i64 31, .int .i64 30, .int .i64 31]) w := fun w => run_build w _ _ _ (by kernel_rfl)
  go_enter Tryz.func275, Tryz.ntmps275
  go_wp2
  simp [Instr.index, run_underlying Tryz.underlying300, asIntOf, go_sem]
  go_wp2
  go_ret
  exact ⟨by go_grown, rfl⟩
theorem before_c (y : Int) (w : World) (h : 1 <= y /\ y <= 10000) : Calls Tryz.prog 274 #[.int .i64 y] w fun e w' => w = w' /\ e = .returned (.int .i64 (bef y)) := by
 obtain ⟨h1, h2⟩ := h
 go_enter Tryz.func274, Tryz.ntmps274
 go_wp2
 go_ret
 exact ⟨rfl, rfl⟩
end Go.Proofs.YtbnjejenejoibaaGreatDoor
namespace Go.Proofs.YtbnjejenejoibaaGreatDoor
open Go.RowKit Limb Nmb
set_option linter.unusedVariables false
set_option linter.unusedSimpArgs false
def colV (cs : List Col) (j i : Nat) : Value :=
 match i with
 | 0 => .string (cA cs j).name
 | 1 => .int .i64 (cA cs j).kind
 | 2 => .int .i64 (cA cs j).width
 | 3 => .int .i64 (cA cs j).places
 | 4 => .int .i64 (cA cs j).form
 | 5 => .bool (cA cs j).right
 | 6 => .int .u8 (cA cs j).fill
 | _ => .bool (cA cs j).need
def colG (c : Col) : Value := .agg #[.string c.name, .int .i64 c.kind, .int .i64 c.width, .int .i64 c.places, .int .i64 c.form, .bool c.right, .int .u8 c.fill, .bool c.need]
def Cols (w : World) (A : Option Addr) (cs : List Col) : Prop := ((∀ c ∈ cs, c.name.size <= 9223372036854775807) /\ cs.length <= 9223372036854775807) /\ Rws w A 8 cs.length (colV cs)
theorem Cols.below {w w' : World} {A : Option Addr} {cs : List Col} (h : Cols w A cs) (hb : Below w.heap.size w w') : Cols w' A cs := ⟨h.1, h.2.below hb⟩
def kindV (ks : List RKd) (FA : Nat -> Option Addr) (FC : Nat -> Nat) (j i : Nat) : Value :=
 match i with
 | 0 => .string (kA ks j).tag
 | 1 => .slice (FA j) (kA ks j).fields.length (FC j)
 | 2 => .int .i64 (kA ks j).most
 | _ => .string (kA ks j).under
def kindG (k : RKd) (A : Option Addr) (C : Nat) : Value := .agg #[.string k.tag, .slice A k.fields.length C, .int .i64 k.most, .string k.under]
def Kinds (w : World) (A : Option Addr) (ks : List RKd) (FA : Nat -> Option Addr) (FC : Nat -> Nat) : Prop :=
 ((∀ k ∈ ks, k.tag.size <= 9223372036854775807 /\ k.under.size <= 9223372036854775807) /\ ks.length <= 9223372036854775807) /\ Rws w A 4 ks.length (kindV ks FA FC) /\ ∀ j, j < ks.length -> Cols w (FA j) (kA ks j).fields /\ (kA ks j).fields.length <= FC j
theorem Kinds.below {w w' : World} {A : Option Addr} {ks : List RKd} {FA : Nat -> Option Addr} {FC : Nat -> Nat} (h : Kinds w A ks FA FC) (hb : Below w.heap.size w w') : Kinds w' A ks FA FC :=
 ⟨h.1, h.2.1.below hb, fun j hj => ⟨(h.2.2 j hj).1.below hb, (h.2.2 j hj).2⟩⟩
set_option maxHeartbeats 1000000 in
set_option maxRecDepth 100000 in
theorem ixc_c (N : Nat) (cap : Value) (q : Col -> Bool) (A : Option Addr) (c : Nat) (cs : List Col) (w : World) (ho : Cols w A cs) (hr : ∀ args w, (Sem.run Tryz.prog (callFunc N args) w) = .ok (.enter N args) w)
  (hq : ∀ j, j < cs.length -> ∀ wr, Below w.heap.size w wr -> Calls Tryz.prog N #[colG (cA cs j), cap] wr fun e w' => e = .returned (.bool (q (cA cs j))) /\ Below wr.heap.size wr w') :
  Calls Tryz.prog 51 #[.slice A cs.length c, .func (.func N) #[] #[cap]] w
   fun e w' => e = .returned (.int .i64 (ixF q cs)) /\ Below w.heap.size w w' := by
 have HO := Lib.hid ho; have HQ := Lib.hid hq; have HR := Lib.hid hr
 obtain ⟨n, hnn⟩ : ∃ n, cs.length = n := ⟨_, rfl⟩
 have hn := ho.1.2
 have HN := Lib.hid hnn
 rw [hnn] at hn ⊢
 clear ho hr hq hnn
 go_enter Tryz.func51, Tryz.ntmps51
 go_wp2
 go_loopw [8] (fun i wr => ∃ k : Nat, k <= n /\ i = .int .i64 k /\ Below w.heap.size w wr /\ Hid (∀ j, j < k -> q (cA cs j) = false)) (fun i _ => n - (intOf i).toNat)
 case atStart => exact ⟨0, Nat.zero_le _, rfl, Below.refl _ _, Lib.hid (fun j h => absurd h (Nat.not_lt_zero _))⟩
 case round =>
  obtain ⟨k, hk, rfl, hb, HK⟩ := hrel
  rcases Nat.lt_or_ge k n with hlt | hge
  ·have hltj : k < cs.length := by rw [HN.out]; exact hlt
   obtain ⟨b, off, rfl, hbw, hc⟩ := (HO.out.below hb).2.get hltj
   have c0 : wr.cell? ⟨b, off + k * 8, none⟩ = some (.string (cA cs k).name) := hc 0 (by decide)
   have c1 : wr.cell? ⟨b, off + k * 8 + 1, none⟩ = some (.int .i64 (cA cs k).kind) := hc 1 (by decide)
   have c2 : wr.cell? ⟨b, off + k * 8 + 2, none⟩ = some (.int .i64 (cA cs k).width) := hc 2 (by decide)
   have c3 : wr.cell? ⟨b, off + k * 8 + 3, none⟩ = some (.int .i64 (cA cs k).places) := hc 3 (by decide)
   have c4 : wr.cell? ⟨b, off + k * 8 + 4, none⟩ = some (.int .i64 (cA cs k).form) := hc 4 (by decide)
   have c5 : wr.cell? ⟨b, off + k * 8 + 5, none⟩ = some (.bool (cA cs k).right) := hc 5 (by decide)
   have c6 : wr.cell? ⟨b, off + k * 8 + 6, none⟩ = some (.int .u8 (cA cs k).fill) := hc 6 (by decide)
   have c7 : wr.cell? ⟨b, off + k * 8 + 7, none⟩ = some (.bool (cA cs k).need) := hc 7 (by decide)
   have HC := Lib.hid (HQ.out k hltj wr hb)
   obtain ⟨x, hx⟩ : ∃ x, cA cs k = x := ⟨_, rfl⟩
   have HX := Lib.hid hx
   rw [hx] at c0 c1 c2 c3 c4 c5 c6 c7 HC
   unfold colG at HC
   clear hc hx
   cases hot : q x with
   | true =>
    rw [hot] at HC
    have HT := Lib.hid (show ixF q cs = (k : Int) from ixF_hit hltj (by rw [cA_get hltj, HX.out]; exact hot) (fun j hj hjk => by rw [cA_get hj]; exact HK.out j hjk))
    clear hot hltj
    go_wp2_with fail
    rw [HR.out]
    refine HC.out.mono ?_
    rintro e w2 ⟨rfl, hb2⟩
    have hB2 := below_then hb2 hb hb.size
    go_wp2
    go_ret
    exact ⟨congrArg (fun i => Ending.returned (Value.int .i64 i)) HT.out.symm, hB2⟩
   | false =>
    rw [hot] at HC
    have HK2 := Lib.hid (show ∀ j, j < k + 1 -> q (cA cs j) = false from fun j hj => by
     rcases Nat.lt_or_ge j k with h | h
     ·exact HK.out j h
     ·obtain rfl : j = k := by omega
      rw [HX.out]; exact hot)
    clear hot hltj
    go_wp2_with fail
    rw [HR.out]
    refine HC.out.mono ?_
    rintro e w2 ⟨rfl, hb2⟩
    have hB2 := below_then hb2 hb hb.size
    go_wp2
    go_roundw
    case rel => exact ⟨k + 1, by omega, by go_num, hB2, HK2⟩
    case measure => simp [intOf]; omega
  ·obtain rfl : k = n := by omega
   have HT := Lib.hid (show ixF q cs = -1 from ixF_no (fun j hj => by rw [cA_get hj]; exact HK.out j (by rw [<- HN.out]; exact hj)))
   go_wp2
   go_ret
   exact ⟨congrArg (fun i => Ending.returned (Value.int .i64 i)) HT.out.symm, hb⟩
set_option maxHeartbeats 1000000 in
set_option maxRecDepth 100000 in
theorem ixk_c (N : Nat) (cap : Value) (q : RKd -> Bool) (A : Option Addr) (c n : Nat) (ks : List RKd) (FA : Nat -> Option Addr) (FC : Nat -> Nat) (w : World) (hnk : n <= ks.length) (ho : Kinds w A ks FA FC) (hr : ∀ args w, (Sem.run Tryz.prog (callFunc N args) w) = .ok (.enter N args) w)
  (hq : ∀ j, j < n -> ∀ wr, Below w.heap.size w wr -> Calls Tryz.prog N #[kindG (kA ks j) (FA j) (FC j), cap] wr fun e w' => e = .returned (.bool (q (kA ks j))) /\ Below wr.heap.size wr w') :
  Calls Tryz.prog 49 #[.slice A n c, .func (.func N) #[] #[cap]] w
   fun e w' => e = .returned (.int .i64 (ixF q (ks.take n))) /\ Below w.heap.size w w' := by
 have HO := Lib.hid ho; have HQ := Lib.hid hq; have HR := Lib.hid hr
 have hn : n <= 9223372036854775807 := by have := ho.1.2; omega
 clear ho hr hq
 go_enter Tryz.func49, Tryz.ntmps49
 go_wp2
 go_loopw [8] (fun i wr => ∃ k : Nat, k <= n /\ i = .int .i64 k /\ Below w.heap.size w wr /\ Hid (∀ j, j < k -> q (kA ks j) = false)) (fun i _ => n - (intOf i).toNat)
 case atStart => exact ⟨0, Nat.zero_le _, rfl, Below.refl _ _, Lib.hid (fun j h => absurd h (Nat.not_lt_zero _))⟩
 case round =>
  obtain ⟨k, hk, rfl, hb, HK⟩ := hrel
  rcases Nat.lt_or_ge k n with hlt | hge
  ·have hltj : k < ks.length := by omega
   obtain ⟨b, off, rfl, hbw, hc⟩ := (HO.out.below hb).2.1.get hltj
   have c0 : wr.cell? ⟨b, off + k * 4, none⟩ = some (.string (kA ks k).tag) := hc 0 (by decide)
   have c1 : wr.cell? ⟨b, off + k * 4 + 1, none⟩ = some (.slice (FA k) (kA ks k).fields.length (FC k)) := hc 1 (by decide)
   have c2 : wr.cell? ⟨b, off + k * 4 + 2, none⟩ = some (.int .i64 (kA ks k).most) := hc 2 (by decide)
   have c3 : wr.cell? ⟨b, off + k * 4 + 3, none⟩ = some (.string (kA ks k).under) := hc 3 (by decide)
   have HC := Lib.hid (HQ.out k hlt wr hb)
   obtain ⟨x, hx⟩ : ∃ x, kA ks k = x := ⟨_, rfl⟩
   have HX := Lib.hid hx
   rw [hx] at c0 c1 c2 c3 HC
   unfold kindG at HC
   generalize FA k = B at c1 HC
   generalize FC k = D at c1 HC
   clear hc hx
   cases hot : q x with
   | true =>
    rw [hot] at HC
    have HT := Lib.hid (show ixF q (ks.take n) = (k : Int) from ixF_hit (by rw [List.length_take]; omega) (by rw [List.getElem_take, kA_get hltj, HX.out]; exact hot) (fun j hj hjk => by rw [List.getElem_take, kA_get]; exact HK.out j hjk))
    clear hot hltj
    go_wp2_with fail
    rw [HR.out]
    refine HC.out.mono ?_
    rintro e w2 ⟨rfl, hb2⟩
    have hB2 := below_then hb2 hb hb.size
    go_wp2
    go_ret
    exact ⟨congrArg (fun i => Ending.returned (Value.int .i64 i)) HT.out.symm, hB2⟩
   | false =>
    rw [hot] at HC
    have HK2 := Lib.hid (show ∀ j, j < k + 1 -> q (kA ks j) = false from fun j hj => by
     rcases Nat.lt_or_ge j k with h | h
     ·exact HK.out j h
     ·obtain rfl : j = k := by omega
      rw [HX.out]; exact hot)
    clear hot hltj
    go_wp2_with fail
    rw [HR.out]
    refine HC.out.mono ?_
    rintro e w2 ⟨rfl, hb2⟩
    have hB2 := below_then hb2 hb hb.size
    go_wp2
    go_roundw
    case rel => exact ⟨k + 1, by omega, by go_num, hB2, HK2⟩
    case measure => simp [intOf]; omega
  ·obtain rfl : k = n := by omega
   have HT := Lib.hid (show ixF q (ks.take k) = -1 from ixF_no (fun j hj => by rw [List.length_take] at hj; rw [List.getElem_take, kA_get]; exact HK.out j (by omega)))
   go_wp2
   go_ret
   exact ⟨congrArg (fun i => Ending.returned (Value.int .i64 i)) HT.out.symm, hb⟩
end Go.Proofs.YtbnjejenejoibaaGreatDoor
namespace Go.Proofs.YtbnjejenejoibaaGreatDoor
open Go.RowKit Limb
set_option linter.unusedVariables false
set_option linter.unusedSimpArgs false
theorem digV_news {w : World} {K : IntKind} {E : TypeId} {g n : Nat} {l : List Nat} (h : Dig w K E (some ⟨g, 0, none⟩) n l) : ∀ j u, (digV K l)[j]? = some u -> w.cell? ((⟨g, 0, none⟩ : Addr).add j) = some u := by
 intro j u hj
 have hlt : j < l.length := by
  rcases Nat.lt_or_ge j (digV K l).length with h1 | h1
  ·rwa [digV_length] at h1
  ·rw [List.getElem?_eq_none h1] at hj; cases hj
 have hn := h.1
 obtain ⟨g', e, _, hc⟩ := h.at_ (by omega)
 injection e with e
 injection e with e1 e2
 subst e1
 have hadd : (⟨g, 0, none⟩ : Addr).add j = ⟨g, j, none⟩ := by unfold Addr.add; split <;> simp_all
 rw [hadd, hc j (by omega), <- hj, digV_get K hlt]
def Cloned32 (l : List Nat) (n : Nat) (w : World) (e : Ending) (w' : World) : Prop :=
 ∃ A c, e = .returned (.slice A n c) /\ w'.ownsRow w.heap.size 196 1 (.slice A n c) n (digV .u32 l) /\ Below w.heap.size w w'
set_option maxHeartbeats 1000000 in
set_option maxRecDepth 100000 in
theorem clone32_c (l : List Nat) (A : Option Addr) (n c : Nat) (w : World) (hd : Dig w .u32 196 A n l) (hn0 : 0 < n) (hnc : n <= c) (hn : n <= 1000) :
  Calls Tryz.prog 241 #[.slice A n c] w (Cloned32 l n w) := by
 obtain ⟨i0, hi, hz0, hz1, hz2⟩ := info_parts Tryz.info196
 obtain ⟨g, rfl, hg, _⟩ := hd.at_ hn0
 have hnil : ∀ w, (binOp .eql 109 (.slice (some ⟨g, 0, none⟩) n c) (.slice none 0 0)).run Tryz.prog w = .ok (.bool false) w := fun w => Lib.run_eql_slice_nil w _ _ _ _ _ _ _ Tryz.underlying109
 go_enter Tryz.func241, Tryz.ntmps241
 go_wp2_with (first
  | (at_builtin; refine wpList_append_own _ rfl _ _ 109 rfl w.heap.size 196 i0 (.int .u32 0) 1 4 Tryz.underlying109 hi hz0 hz1 hz2 rfl (by omega) _ 0 [] rfl (World.ownsRow_lit w #[] 0 (Nat.le_refl _) (by unfold maxLen; omega) (by simp)) ⟨g, 0, none⟩ n c (digV .u32 l) rfl ?c1 ?c2 (digV_one .u32 l) ?c3 ?c4 ?c5 ?_))
 case c1 => rw [digV_length, hd.1]; omega
 case c2 => exact digV_news (hd.alloc _)
 case c3 => unfold maxLen; omega
 case c4 => omega
 case c5 => simp
 intro v' w1 hown hg _
 obtain ⟨A', c', rfl⟩ := own_slice hown
 have hb : Below w.heap.size w w1 := ((Below.refl _ _).alloc (Nat.le_refl _) _).grown hg (by simp) (by intro k hk; simp [Value.ownBlock] at hk; omega)
 have hlen := hd.1
 subst hlen
 clear hg hd
 go_wp2
 go_ret
 exact ⟨A', c', rfl, by simpa using hown, hb⟩
theorem shl_or (r x : Nat) (hr : r < 4294967296) (hx : x < 4294967296) : bits .or .u64 ((r : Int) * 4294967296) (x : Int) = ((r * 4294967296 + x : Nat) : Int) := by
 have e : (r : Int) * 4294967296 = ((r * 4294967296 : Nat) : Int) := by rw [Int.natCast_mul]; rfl
 have h3 := u64_or_nat (r * 4294967296) x (by omega) (by omega)
 have h4 := Nat.two_pow_add_eq_or_of_lt (i := 32) (b := x) (by omega) r
 have e2 : 2 ^ 32 * r = r * 4294967296 := by rw [Nat.mul_comm]
 rw [e2] at h4
 rw [e, h3, <- h4]
set_option maxHeartbeats 1000000 in
set_option maxRecDepth 100000 in
theorem div32_c (r x : Nat) (w : World) (hr : r < 10) (hx : x < 4294967296) :
  Calls Tryz.prog 242 #[.int .u32 (r : Int), .int .u32 (x : Int), .int .u32 10] w fun e w' => (∃ q, w' = w.drewN q) /\ e = .returned (.tuple #[.int .u32 (((r * 4294967296 + x) / 10 : Nat) : Int), .int .u32 (((r * 4294967296 + x) % 10 : Nat) : Int)]) := by
 have e1 := shl_or r x (by omega) hx
 obtain ⟨z, hz⟩ : ∃ z, r * 4294967296 + x = z := ⟨_, rfl⟩
 rw [hz] at e1 ⊢
 have hz2 : z < 42949672960 := by omega
 clear hz
 go_enter Tryz.func242, Tryz.ntmps242
 go_wp2
 have t1 : (z : Int).tdiv 10 = (((z / 10 : Nat)) : Int) := by rw [Int.tdiv_eq_ediv_of_nonneg (by omega)]; rfl
 have t2 : (z : Int).tmod 10 = (((z % 10 : Nat)) : Int) := by rw [Int.tmod_eq_emod_of_nonneg (by omega)]; rfl
 have t3 : IntKind.u32.wrap (((z / 10 : Nat)) : Int) = (((z / 10 : Nat)) : Int) := by simp only [IntKind.wrap, IntKind.bits, IntKind.signed]; simp; omega
 have t4 : IntKind.u32.wrap (((z % 10 : Nat)) : Int) = (((z % 10 : Nat)) : Int) := by simp only [IntKind.wrap, IntKind.bits, IntKind.signed]; simp; omega
 go_quiet (fail)
 go_wp2
 go_ret2
 exact ⟨⟨_, rfl⟩, rfl⟩
theorem digV_swap (l : List Nat) (i j x y : Nat) : digV .u8 ((l.set i x).set j y) = ((digV .u8 l).set i (.int .u8 (x : Int))).set j (.int .u8 (y : Int)) := by rw [digV_set, digV_set]
set_option maxHeartbeats 2000000 in
set_option maxRecDepth 100000 in
theorem reverse8_c (ds : List Nat) (B : Nat) (A : Option Addr) (n c : Nat) (w : World) (hown : w.ownsRow B 5 1 (.slice A n c) n (digV .u8 ds)) (hl : ds.length = n) (hn : n <= 1000) (hn0 : 0 < n) :
  Calls Tryz.prog 243 #[.slice A n c] w fun e w' => e = .returned (.tuple #[]) /\ w'.ownsRow B 5 1 (.slice A n c) n (digV .u8 ds.reverse) /\ Below B w w' := by
 obtain ⟨g, hA, hbg⟩ : ∃ g, A = some ⟨g, 0, none⟩ /\ B <= g := by
  rcases hown.2 with ⟨_, h0⟩ | ⟨g, cap, cur, hv, hbg, _⟩
  ·omega
  ·injection hv with hA
   exact ⟨g, hA, hbg⟩
 subst hA
 go_enter Tryz.func243, Tryz.ntmps243
 go_wp2
 go_loopw [2, 3] (fun x y wr => ∃ (i j : Nat) (cs : List Nat), i + j + 1 = n /\ x = .int .i64 (i : Int) /\ y = .int .i64 (j : Int) /\ i <= j + 1 /\ cs.length = n /\ wr.ownsRow B 5 1 (.slice (some ⟨g, 0, none⟩) n c) n (digV .u8 cs) /\ (∀ p, p < n -> cs[p]? = if p < i ∨ j < p then ds[n - 1 - p]? else ds[p]?) /\ Below B w wr)
  (fun x y _ => (intOf y + 1 - intOf x).toNat)
 case atStart => exact ⟨0, n - 1, ds, by omega, rfl, by go_num, by omega, hl, hown, fun p hp => by rw [if_neg (by omega)], Below.refl _ _⟩
 case round =>
  obtain ⟨i, j, cs, hij, rfl, rfl, hle, hcl, hown, hperm, hbel⟩ := hrel
  have HP := Lib.hid hperm; have HC := Lib.hid hcl; have HI := Lib.hid hij; clear hperm hcl
  rcases Nat.lt_or_ge i j with hlt | hge
  ·have hgi := digV_get .u8 (l := cs) (k := i) (by rw [HC.out]; omega)
   have hgj := digV_get .u8 (l := cs) (k := j) (by rw [HC.out]; omega)
   have hi0 := (hown.cellAt i (by omega)).trans hgi
   have hj0 := (hown.cellAt j (by omega)).trans hgj
   have fi0 := hown.frozenAt i
   have fj0 := hown.frozenAt j
   have b1 : (0 : Int) <= (i : Int) := by omega
   have b2 : (i : Int) < (n : Int) := by omega
   have b3 : (0 : Int) <= (j : Int) := by omega
   have b4 : (j : Int) < (n : Int) := by omega
   have b5 : (i : Int) < (j : Int) := by omega
   clear hgi hgj hij
   go_wp2_with fail
   go_region
   have hnew := ((hown.stored i (.int .u8 ((dg cs j : Nat) : Int))).1.stored j (.int .u8 ((dg cs i : Nat) : Int))).1
   rw [<- digV_swap] at hnew
   have hb' := (hbel.setCell (p := ⟨g, i, none⟩) hbg (.int .u8 ((dg cs j : Nat) : Int))).setCell (p := ⟨g, j, none⟩) hbg (.int .u8 ((dg cs i : Nat) : Int))
   generalize (wr.setCell ⟨g, i, none⟩ (.int .u8 ((dg cs j : Nat) : Int))).setCell ⟨g, j, none⟩ (.int .u8 ((dg cs i : Nat) : Int)) = w5 at hnew hb' ⊢
   clear hi0 hj0 fi0 fj0 hown hbel
   go_wp2
   go_roundw
   case rel =>
    have hI := HI.out
    have hC := HC.out
    refine ⟨i + 1, j - 1, (cs.set i (dg cs j)).set j (dg cs i), by omega, by go_num, congrArg _ (by omega), by omega, by simp [hC], hnew.drew, fun p hp => ?_, hb'.drew⟩
    have hpi := HP.out i (by omega)
    have hpj := HP.out j (by omega)
    have hpp := HP.out p hp
    rw [if_neg (by omega)] at hpi hpj
    have ei : cs[i]? = some (dg cs i) := dg_get (by omega)
    have ej : cs[j]? = some (dg cs j) := dg_get (by omega)
    rw [List.getElem?_set, List.getElem?_set]
    simp only [List.length_set]
    by_cases h1 : j = p
    ·subst h1
     rw [if_pos rfl, if_pos (by omega), if_pos (by omega), <- ei, hpi]
     congr 1
     omega
    ·rw [if_neg h1]
     by_cases h2 : i = p
     ·subst h2
      rw [if_pos rfl, if_pos (by omega), if_pos (by omega), <- ej, hpj]
      congr 1
      omega
     ·rw [if_neg h2, hpp]
      by_cases h3 : p < i ∨ j < p
      ·rw [if_pos h3, if_pos (by omega)]
      ·rw [if_neg h3, if_neg (by omega)]
   case measure => simp [intOf]; omega
  ·have hrev : cs = ds.reverse := by
    apply List.ext_getElem?
    intro p
    have hC := HC.out
    rcases Nat.lt_or_ge p n with hp | hp
    ·rw [HP.out p hp, List.getElem?_reverse (by omega), hl]
     split
     ·rfl
     ·congr 1; omega
    ·rw [List.getElem?_eq_none (by omega), List.getElem?_eq_none (by simp; omega)]
   subst hrev
   clear HP HC HI
   go_wp2
   go_end0
   exact ⟨rfl, hown, hbel⟩
end Go.Proofs.YtbnjejenejoibaaGreatDoor
namespace Go.Proofs.YtbnjejenejoibaaGreatDoor
open Go.RowKit Limb Nmb
set_option linter.unusedVariables false
set_option linter.unusedSimpArgs false
theorem szL (s : ByteArray) : s.data.toList.length = s.size := by simp
theorem inB_inL (l : List UInt8) (a b : Nat) : inB l a b = inL l a b := by
 rw [Bool.eq_iff_iff]
 unfold inB
 rw [List.all_eq_true]
 constructor
 ·intro h
  refine inL_mk (fun i hi => ?_)
  have := of_decide_eq_true (h l[i] (List.getElem_mem hi))
  rw [byA_get hi]
  omega
 ·intro h c hc
  obtain ⟨i, hi, rfl⟩ := List.getElem_of_mem hc
  have := inL_yes h hi
  rw [byA_get hi] at this
  exact decide_eq_true (by omega)
theorem digB_digs (l : List UInt8) : digB l = digs l := by
 unfold digB digs
 rw [inB_inL, Bool.and_comm]
 rfl
def tagSet : ByteArray := ⟨#[65, 66, 67, 68, 69, 70, 71, 72, 73, 74, 75, 76, 77, 78, 79, 80, 81, 82, 83, 84, 85, 86, 87, 88, 89, 90, 48, 49, 50, 51, 52, 53, 54, 55, 56, 57]⟩
theorem tagSet_fin : ∀ i : Fin 256, tagSet.data.toList.contains (UInt8.ofNat i.val) = tagC ((UInt8.ofNat i.val).toNat : Int) := by decide +kernel
theorem tagSet_c (c : UInt8) : tagSet.data.toList.contains c = tagC (c.toNat : Int) := by
 have := tagSet_fin ⟨c.toNat, c.toNat_lt⟩
 simp only [UInt8.ofNat_toNat] at this
 exact this
theorem trim_tag (l : List UInt8) : (Lib.trimS l tagSet.data.toList).isEmpty = tagL l := by
 rw [trimS_nil]
 unfold tagL
 congr 1
 funext c
 exact tagSet_c c
set_option maxHeartbeats 1000000 in
set_option maxRecDepth 100000 in
theorem istag_c (s : ByteArray) (w : World) (hs : s.size <= 9223372036854775807) :
  Calls Tryz.prog 102 #[.string s] w (RetB (tagL s.data.toList) w) := by
 have hcon := Tryz.strings_Trim_laid s tagSet w hs (by decide) (ascii_of_all (by decide))
 obtain ⟨r, hr⟩ : ∃ r : ByteArray, (⟨(Lib.trimS s.data.toList tagSet.data.toList).toArray⟩ : ByteArray) = r := ⟨_, rfl⟩
 have er : (Lib.trimS s.data.toList tagSet.data.toList).isEmpty = r.toList.isEmpty := by rw [<- hr, Lib.toList_data]
 rw [hr] at hcon
 unfold tagSet at hcon
 rw [<- trim_tag, er]
 clear hr er
 cases hb : r.toList.isEmpty with
 | true =>
  go_enter Tryz.func102, Tryz.ntmps102
  go_wp2_with (go_at_call 114; refine hcon.mono ?_; rintro e w1 ⟨rfl, hb1⟩)
  go_ret
  exact ⟨rfl, hb1⟩
 | false =>
  go_enter Tryz.func102, Tryz.ntmps102
  go_wp2_with (go_at_call 114; refine hcon.mono ?_; rintro e w1 ⟨rfl, hb1⟩)
  go_ret
  exact ⟨rfl, hb1⟩
theorem inb_c (s : ByteArray) (lo hi : Nat) (w : World) (hs : s.size <= 9223372036854775807) :
  Calls Tryz.prog 131 #[.string s, .int .u8 (lo : Int), .int .u8 (hi : Int)] w fun e w' => w = w' /\ e = .returned (.bool (inL s.data.toList lo hi)) := by
 rw [<- inB_inL]
 cases h : inB s.data.toList lo hi with
 | true => exact inb_yes s lo hi w h hs
 | false => exact inb_no s lo hi w h hs
end Go.Proofs.YtbnjejenejoibaaGreatDoor
namespace Go.Proofs.YtbnjejenejoibaaGreatDoor
open Go.RowKit Limb
set_option linter.unusedVariables false
set_option linter.unusedSimpArgs false
end Go.Proofs.YtbnjejenejoibaaGreatDoor
