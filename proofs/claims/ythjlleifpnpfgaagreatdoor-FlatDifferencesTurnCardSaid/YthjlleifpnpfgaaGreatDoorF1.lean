
/- Formats in memory; searches in columns and in kinds. -/
import Derived.Test.YthjlleifpnpfgaaGreatDoorF0
import Derived.Test.YthjlleifpnpfgaaGreatDoorMem
import Derived.Test.YthjlleifpnpfgaaGreatDoorT12
import Derived.Test.YthjlleifpnpfgaaGreatDoorM2
namespace Go.Proofs.YthjlleifpnpfgaaGreatDoor
open Go.RowKit Limb Nmb
set_option linter.unusedVariables false
set_option linter.unusedSimpArgs false
def colV (cs : List Col) (j i : Nat) : Value :=
 match i with
 | 0 => .string (cA cs j).name
 | 1 => .int .i64 (cA cs j).kind
 | 2 => .int .i64 (cA cs j).width
 | 3 => .int .i64 (cA cs j).places
 | 4 => .int .i64 (cA cs j).form
 | 5 => .bool (cA cs j).right
 | 6 => .int .u8 (cA cs j).fill
 | _ => .bool (cA cs j).need
def colG (c : Col) : Value := .agg #[.string c.name, .int .i64 c.kind, .int .i64 c.width, .int .i64 c.places, .int .i64 c.form, .bool c.right, .int .u8 c.fill, .bool c.need]
def Cols (w : World) (A : Option Addr) (cs : List Col) : Prop := ((∀ c ∈ cs, c.name.size <= 9223372036854775807) /\ cs.length <= 9223372036854775807) /\ Rws w A 8 cs.length (colV cs)
theorem Cols.below {w w' : World} {A : Option Addr} {cs : List Col} (h : Cols w A cs) (hb : Below w.heap.size w w') : Cols w' A cs := ⟨h.1, h.2.below hb⟩
def kindV (ks : List RKd) (FA : Nat -> Option Addr) (FC : Nat -> Nat) (j i : Nat) : Value :=
 match i with
 | 0 => .string (kA ks j).tag
 | 1 => .slice (FA j) (kA ks j).fields.length (FC j)
 | 2 => .int .i64 (kA ks j).most
 | _ => .string (kA ks j).under
def kindG (k : RKd) (A : Option Addr) (C : Nat) : Value := .agg #[.string k.tag, .slice A k.fields.length C, .int .i64 k.most, .string k.under]
def Kinds (w : World) (A : Option Addr) (ks : List RKd) (FA : Nat -> Option Addr) (FC : Nat -> Nat) : Prop :=
 ((∀ k ∈ ks, k.tag.size <= 9223372036854775807 /\ k.under.size <= 9223372036854775807) /\ ks.length <= 9223372036854775807) /\ Rws w A 4 ks.length (kindV ks FA FC) /\ ∀ j, j < ks.length -> Cols w (FA j) (kA ks j).fields /\ (kA ks j).fields.length <= FC j
theorem Kinds.below {w w' : World} {A : Option Addr} {ks : List RKd} {FA : Nat -> Option Addr} {FC : Nat -> Nat} (h : Kinds w A ks FA FC) (hb : Below w.heap.size w w') : Kinds w' A ks FA FC :=
 ⟨h.1, h.2.1.below hb, fun j hj => ⟨(h.2.2 j hj).1.below hb, (h.2.2 j hj).2⟩⟩
set_option maxHeartbeats 1000000 in
set_option maxRecDepth 100000 in
theorem ixc_c (N : Nat) (cap : Value) (q : Col -> Bool) (A : Option Addr) (c : Nat) (cs : List Col) (w : World) (ho : Cols w A cs) (hr : ∀ args w, (Sem.run Tryz.prog (callFunc N args) w) = .ok (.enter N args) w)
  (hq : ∀ j, j < cs.length -> ∀ wr, Below w.heap.size w wr -> Calls Tryz.prog N #[colG (cA cs j), cap] wr fun e w' => e = .returned (.bool (q (cA cs j))) /\ Below wr.heap.size wr w') :
  Calls Tryz.prog 55 #[.slice A cs.length c, .func (.func N) #[] #[cap]] w
   fun e w' => e = .returned (.int .i64 (ixF q cs)) /\ Below w.heap.size w w' := by
 have HO := Lib.hid ho; have HQ := Lib.hid hq; have HR := Lib.hid hr
 obtain ⟨n, hnn⟩ : ∃ n, cs.length = n := ⟨_, rfl⟩
 have hn := ho.1.2
 have HN := Lib.hid hnn
 rw [hnn] at hn ⊢
 clear ho hr hq hnn
 go_enter Tryz.func55, Tryz.ntmps55
 go_wp2
 go_loopw [8] (fun i wr => ∃ k : Nat, k <= n /\ i = .int .i64 k /\ Below w.heap.size w wr /\ Hid (∀ j, j < k -> q (cA cs j) = false)) (fun i _ => n - (intOf i).toNat)
 case atStart => exact ⟨0, Nat.zero_le _, rfl, Below.refl _ _, Lib.hid (fun j h => absurd h (Nat.not_lt_zero _))⟩
 case round =>
  obtain ⟨k, hk, rfl, hb, HK⟩ := hrel
  rcases Nat.lt_or_ge k n with hlt | hge
  ·have hltj : k < cs.length := by rw [HN.out]; exact hlt
   obtain ⟨b, off, rfl, hbw, hc⟩ := (HO.out.below hb).2.get hltj
   have c0 : wr.cell? ⟨b, off + k * 8, none⟩ = some (.string (cA cs k).name) := hc 0 (by decide)
   have c1 : wr.cell? ⟨b, off + k * 8 + 1, none⟩ = some (.int .i64 (cA cs k).kind) := hc 1 (by decide)
   have c2 : wr.cell? ⟨b, off + k * 8 + 2, none⟩ = some (.int .i64 (cA cs k).width) := hc 2 (by decide)
   have c3 : wr.cell? ⟨b, off + k * 8 + 3, none⟩ = some (.int .i64 (cA cs k).places) := hc 3 (by decide)
   have c4 : wr.cell? ⟨b, off + k * 8 + 4, none⟩ = some (.int .i64 (cA cs k).form) := hc 4 (by decide)
   have c5 : wr.cell? ⟨b, off + k * 8 + 5, none⟩ = some (.bool (cA cs k).right) := hc 5 (by decide)
   have c6 : wr.cell? ⟨b, off + k * 8 + 6, none⟩ = some (.int .u8 (cA cs k).fill) := hc 6 (by decide)
   have c7 : wr.cell? ⟨b, off + k * 8 + 7, none⟩ = some (.bool (cA cs k).need) := hc 7 (by decide)
   have HC := Lib.hid (HQ.out k hltj wr hb)
   obtain ⟨x, hx⟩ : ∃ x, cA cs k = x := ⟨_, rfl⟩
   have HX := Lib.hid hx
   rw [hx] at c0 c1 c2 c3 c4 c5 c6 c7 HC
   unfold colG at HC
   clear hc hx
   cases hot : q x with
   | true =>
    rw [hot] at HC
    have HT := Lib.hid (show ixF q cs = (k : Int) from ixF_hit hltj (by rw [cA_get hltj, HX.out]; exact hot) (fun j hj hjk => by rw [cA_get hj]; exact HK.out j hjk))
    clear hot hltj
    go_wp2_with fail
    rw [HR.out]
    refine HC.out.mono ?_
    rintro e w2 ⟨rfl, hb2⟩
    have hB2 := below_then hb2 hb hb.size
    go_wp2
    go_ret
    exact ⟨congrArg (fun i => Ending.returned (Value.int .i64 i)) HT.out.symm, hB2⟩
   | false =>
    rw [hot] at HC
    have HK2 := Lib.hid (show ∀ j, j < k + 1 -> q (cA cs j) = false from fun j hj => by
     rcases Nat.lt_or_ge j k with h | h
     ·exact HK.out j h
     ·obtain rfl : j = k := by omega
      rw [HX.out]; exact hot)
    clear hot hltj
    go_wp2_with fail
    rw [HR.out]
    refine HC.out.mono ?_
    rintro e w2 ⟨rfl, hb2⟩
    have hB2 := below_then hb2 hb hb.size
    go_wp2
    go_roundw
    case rel => exact ⟨k + 1, by omega, by go_num, hB2, HK2⟩
    case measure => simp [intOf]; omega
  ·obtain rfl : k = n := by omega
   have HT := Lib.hid (show ixF q cs = -1 from ixF_no (fun j hj => by rw [cA_get hj]; exact HK.out j (by rw [<- HN.out]; exact hj)))
   go_wp2
   go_ret
   exact ⟨congrArg (fun i => Ending.returned (Value.int .i64 i)) HT.out.symm, hb⟩
set_option maxHeartbeats 1000000 in
set_option maxRecDepth 100000 in
theorem ixk_c (N : Nat) (cap : Value) (q : RKd -> Bool) (A : Option Addr) (c n : Nat) (ks : List RKd) (FA : Nat -> Option Addr) (FC : Nat -> Nat) (w : World) (hnk : n <= ks.length) (ho : Kinds w A ks FA FC) (hr : ∀ args w, (Sem.run Tryz.prog (callFunc N args) w) = .ok (.enter N args) w)
  (hq : ∀ j, j < n -> ∀ wr, Below w.heap.size w wr -> Calls Tryz.prog N #[kindG (kA ks j) (FA j) (FC j), cap] wr fun e w' => e = .returned (.bool (q (kA ks j))) /\ Below wr.heap.size wr w') :
  Calls Tryz.prog 54 #[.slice A n c, .func (.func N) #[] #[cap]] w
   fun e w' => e = .returned (.int .i64 (ixF q (ks.take n))) /\ Below w.heap.size w w' := by
 have HO := Lib.hid ho; have HQ := Lib.hid hq; have HR := Lib.hid hr
 have hn : n <= 9223372036854775807 := by have := ho.1.2; omega
 clear ho hr hq
 go_enter Tryz.func54, Tryz.ntmps54
 go_wp2
 go_loopw [8] (fun i wr => ∃ k : Nat, k <= n /\ i = .int .i64 k /\ Below w.heap.size w wr /\ Hid (∀ j, j < k -> q (kA ks j) = false)) (fun i _ => n - (intOf i).toNat)
 case atStart => exact ⟨0, Nat.zero_le _, rfl, Below.refl _ _, Lib.hid (fun j h => absurd h (Nat.not_lt_zero _))⟩
 case round =>
  obtain ⟨k, hk, rfl, hb, HK⟩ := hrel
  rcases Nat.lt_or_ge k n with hlt | hge
  ·have hltj : k < ks.length := by omega
   obtain ⟨b, off, rfl, hbw, hc⟩ := (HO.out.below hb).2.1.get hltj
   have c0 : wr.cell? ⟨b, off + k * 4, none⟩ = some (.string (kA ks k).tag) := hc 0 (by decide)
   have c1 : wr.cell? ⟨b, off + k * 4 + 1, none⟩ = some (.slice (FA k) (kA ks k).fields.length (FC k)) := hc 1 (by decide)
   have c2 : wr.cell? ⟨b, off + k * 4 + 2, none⟩ = some (.int .i64 (kA ks k).most) := hc 2 (by decide)
   have c3 : wr.cell? ⟨b, off + k * 4 + 3, none⟩ = some (.string (kA ks k).under) := hc 3 (by decide)
   have HC := Lib.hid (HQ.out k hlt wr hb)
   obtain ⟨x, hx⟩ : ∃ x, kA ks k = x := ⟨_, rfl⟩
   have HX := Lib.hid hx
   rw [hx] at c0 c1 c2 c3 HC
   unfold kindG at HC
   generalize FA k = B at c1 HC
   generalize FC k = D at c1 HC
   clear hc hx
   cases hot : q x with
   | true =>
    rw [hot] at HC
    have HT := Lib.hid (show ixF q (ks.take n) = (k : Int) from ixF_hit (by rw [List.length_take]; omega) (by rw [List.getElem_take, kA_get hltj, HX.out]; exact hot) (fun j hj hjk => by rw [List.getElem_take, kA_get]; exact HK.out j hjk))
    clear hot hltj
    go_wp2_with fail
    rw [HR.out]
    refine HC.out.mono ?_
    rintro e w2 ⟨rfl, hb2⟩
    have hB2 := below_then hb2 hb hb.size
    go_wp2
    go_ret
    exact ⟨congrArg (fun i => Ending.returned (Value.int .i64 i)) HT.out.symm, hB2⟩
   | false =>
    rw [hot] at HC
    have HK2 := Lib.hid (show ∀ j, j < k + 1 -> q (kA ks j) = false from fun j hj => by
     rcases Nat.lt_or_ge j k with h | h
     ·exact HK.out j h
     ·obtain rfl : j = k := by omega
      rw [HX.out]; exact hot)
    clear hot hltj
    go_wp2_with fail
    rw [HR.out]
    refine HC.out.mono ?_
    rintro e w2 ⟨rfl, hb2⟩
    have hB2 := below_then hb2 hb hb.size
    go_wp2
    go_roundw
    case rel => exact ⟨k + 1, by omega, by go_num, hB2, HK2⟩
    case measure => simp [intOf]; omega
  ·obtain rfl : k = n := by omega
   have HT := Lib.hid (show ixF q (ks.take k) = -1 from ixF_no (fun j hj => by rw [List.length_take] at hj; rw [List.getElem_take, kA_get]; exact HK.out j (by omega)))
   go_wp2
   go_ret
   exact ⟨congrArg (fun i => Ending.returned (Value.int .i64 i)) HT.out.symm, hb⟩
end Go.Proofs.YthjlleifpnpfgaaGreatDoor
